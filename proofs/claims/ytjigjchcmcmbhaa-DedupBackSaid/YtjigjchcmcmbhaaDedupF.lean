import Derived.Test.YtjigjchcmcmbhaaDedupE
namespace Go.Proofs.Ytjigjchcmcmbhaa
open Go Go.RowKit Go.MapKept Go.Proofs.YtjigjchcmcmbhaaW.PrintWords Go.Proofs.YtjigjchcmcmbhaaW.PrintLast
set_option linter.unusedSimpArgs false
set_option linter.unusedVariables false

theorem R_addr {α : Type} {d : Kd α} {e : Nat} {w : World} {base : Nat} {ok : Nat → Prop} {A : Option Addr} {n c : Nat} {xs : List α} (h : d.R e w base ok (.slice A n c) xs) : ∀ a, A = some a → a = ⟨a.block, a.off, none⟩ := by
  obtain ⟨inner, ho⟩ := Kd.R_own h
  rintro a rfl
  rcases ho.2 with ⟨he, _⟩ | ⟨g, cap, cur, he, _⟩
  · cases he
  · injection he with he
    injection he with he
    subst he
    rfl
theorem tb_keep {w w1 : World} {g b gr : Nat} {m : List (Int × Ans)} {v1 v2 : Value} (h : TbAt w g b m) (hk : KeepBut w w1 gr none) (hr : w.heap[gr]? = some (.cells #[v1, v2] 66 (0, 0))) : TbAt w1 g b m := by
  refine ⟨(hk.2 g (blk_lt h.1) (fun e => ?_) (by simp)).trans h.1, h.2.move (hk.2 b h.2.lt (fun e => ?_) (by simp))⟩
  · subst e
    have h1 := h.1
    rw [hr] at h1
    injection h1 with h1
    injection h1 with _ h1
    revert h1
    decide
  · subst e
    exact tb_ne hr h.2 rfl
/-- No byte lies in block g. -/
def NoU8 (w : World) (g : Nat) : Prop := ∀ (ad : Addr) (v : Int), ad.block = g → w.cell? ad ≠ some (.int .u8 v)
theorem rd_other {w w1 : World} {gr g2 : Nat} {xs : List Int} {e : Int} (h : RdAt w gr xs e) (hne : gr ≠ g2) (hx : NoU8 w g2) (hk : KeepBut w w1 g2 none) : RdAt w1 gr xs e := by
  obtain ⟨A, c, hb, hl, hby, hft⟩ := h
  refine ⟨A, c, (hk.2 gr (blk_lt hb) hne (by simp)).trans hb, hl, hby, fun W' hW => ?_⟩
  have h0 := hft w (KeepBut.refl _ _ _)
  have hgr : NoU8 w gr := by
    rintro ad v rfl hc
    unfold World.cell? at hc
    rw [hb] at hc
    simp only at hc
    split at hc
    · cases hc
    · match h3 : ad.off with
      | 0 => rw [h3] at hc; simp at hc
      | 1 => rw [h3] at hc; simp at hc
      | n + 2 => rw [h3] at hc; simp at hc
  have hno : ∀ g, NoU8 w g → ∀ ad, A = some ad → 0 < xs.length → ad.block ≠ g := by
    rintro g hg ad rfl hp rfl
    obtain ⟨ad1, h1, h2⟩ := Kd.at_int h0 0 (by omega) (by omega)
    injection h1 with h1
    subst h1
    refine hg _ _ ?_ h2
    unfold Addr.add; split <;> rfl
  exact Kd.C_keep (0 : Int) (Kd.C_keep (0 : Int) h0 hk (hno g2 hx)) hW (hno gr hgr)
theorem nou8_ans {w : World} {ga t : Nat} {s r q : Int} {d : Bool} (h : w.heap[ga]? = some (.cells #[.int .i64 s, .bool d, .int .i64 r, .int .i64 q] t (0, 0))) : NoU8 w ga := by
  rintro ad v rfl hc
  unfold World.cell? at hc
  rw [h] at hc
  simp only at hc
  split at hc
  · cases hc
  · match h3 : ad.off with
    | 0 => rw [h3] at hc; simp at hc
    | 1 => rw [h3] at hc; simp at hc
    | 2 => rw [h3] at hc; simp at hc
    | 3 => rw [h3] at hc; simp at hc
    | n + 4 => rw [h3] at hc; simp at hc
theorem nou8_map {α : Type} {enc : α → Value} {w : World} {b : Nat} {m : List (Int × α)} (h : IMap enc w b m) : NoU8 w b := by
  obtain ⟨es, clock, h2, _⟩ := h
  rintro ad v rfl hc
  unfold World.cell? at hc
  rw [h2] at hc
  cases hc
theorem tb_other {w w1 : World} {g b x : Nat} {m : List (Int × Ans)} (h : TbAt w g b m) (h1 : g ≠ x) (h2 : b ≠ x) (hk : KeepBut w w1 x none) : TbAt w1 g b m :=
  ⟨(hk.2 g (blk_lt h.1) h1 (by simp)).trans h.1, h.2.move (hk.2 b h.2.lt h2 (by simp))⟩
theorem may_wf {c : Int} (h : mayB c = true) : (Lit.int .i64 c).wf = true := by
  simp only [mayB, Bool.and_eq_true, decide_eq_true_eq] at h
  have h1 : IntKind.min .i64 = -9223372036854775808 := by decide
  have h2 : IntKind.max .i64 = 9223372036854775807 := by decide
  simp only [Lit.wf, h1, h2, Bool.and_eq_true, decide_eq_true_eq]
  omega
set_option maxRecDepth 100000 in
theorem decode_calls (w : World) (A : Option Addr) (c : Nat) (bs : List Int) (hC : (Kd.int .u8).C w A bs.length bs) (hA : ∀ a, A = some a → a = ⟨a.block, a.off, none⟩) (hby : ∀ x ∈ bs, 0 ≤ x ∧ x ≤ 255) (hl : bs.length ≤ 140737488355328) :
    Calls Try.prog 10 #[.slice A bs.length c] w (DecPost w bs) := by
  have HC := Aside0.mk hC
  have HA := Aside0.mk hA
  have HBy := Aside0.mk hby
  clear hC hA hby
  go_enter Try.func10, Try.ntmps10
  go_wp2
  refine wp_scope_all (DecInv w A c bs) (fun l a' _ => if l = 1 then (intOf (a'.tmps.getD 6 undef)).toNat + 1 else 0) ?_ ?_
  · rintro l a' w' (⟨rfl, g, b, gr, ga, k, xs, e, m, hmk, hd, hT, hR, hBA, hG, hB, hg0, hb0, hr0, ha0, u1, u2, u3, u7, u9, u10, u11, u12, u13, u14, u15, u16, u17, u18, u19, u20, u21, u22, u23, u24, u25, u26, u27, u28, u29, u30, u31, u32, u33, u34, u35, u36, u37, u38, u39, u40, u41, u42, u43, u44, u45, u46, u47, u48, u49, u50, u51, u52, u53, u54, u55, u56, u57, u58, u59, u60, u61, u62, u63, rfl⟩ | ⟨rfl, g, b, gr, xs, e, m, hml, hd, hT, hR, hG, hB, hg0, hb0, hr0, u1, u2, u3, u6, u7, u8, u9, u10, u11, u12, u13, u14, u15, u16, u17, u18, u19, u20, u21, u22, u23, u24, u25, u26, u27, u28, u29, u30, u31, u32, u33, u34, u35, u36, u37, u38, u39, u40, u41, u42, u43, u44, u45, u46, u47, u48, u49, u50, u51, u52, u53, u54, u55, u56, u57, u58, u59, u60, u61, u62, u63, rfl⟩)
    · refine ⟨_, rfl, ?_⟩
      by_cases hk0 : k = 0
      · subst hk0
        have hz : (((0 : Nat) : Int) == 0) = true := rfl
        go_wp2
        go_step3
        simp only [Exit.then]
        refine ⟨.inr ⟨rfl, g, b, gr, xs, e, m, by omega, hd, hT, hR, hG, hB, hg0, hb0, hr0, _, _, _, _, _, _, _, _, _, _, _, _, _, _, _, _, _, _, _, _, _, _, _, _, _, _, _, _, _, _, _, _, _, _, _, _, _, _, _, _, _, _, _, _, _, _, _, _, _, _, _, _, _, _, _, _, _, _, _, _, _, rfl⟩, by simp⟩
      · obtain ⟨k, rfl⟩ : ∃ j, k = j + 1 := ⟨k - 1, by omega⟩
        have hz : (((k + 1 : Nat) : Int) == 0) = false := by simp; omega
        have hk1 : ((k + 1 : Nat) : Int) - 1 = (k : Int) := by omega
        clear hk0
        obtain ⟨⟨c1, xs1, e1⟩, hq1⟩ : ∃ q, rnum xs e = q := ⟨_, rfl⟩
        obtain ⟨⟨s2, xs2, e2⟩, hq2⟩ : ∃ q, rnum xs1 e1 = q := ⟨_, rfl⟩
        obtain ⟨⟨d3, xs3, e3⟩, hq3⟩ : ∃ q, rflag xs2 e2 = q := ⟨_, rfl⟩
        obtain ⟨⟨r4, xs4, e4⟩, hq4⟩ : ∃ q, rnum xs3 e3 = q := ⟨_, rfl⟩
        obtain ⟨⟨t5, xs5, e5⟩, hq5⟩ : ∃ q, rnum xs4 e4 = q := ⟨_, rfl⟩
        have hrent : Aside0 (rent xs e = (c1, ⟨s2, d3, r4, t5⟩, xs5, e5)) := ⟨by simp only [rent, hq1, hq2, hq3, hq4, hq5]⟩
        have HQ1 := Aside0.mk hq1
        have HQ2 := Aside0.mk hq2
        have HQ3 := Aside0.mk hq3
        have HQ4 := Aside0.mk hq4
        have HQ5 := Aside0.mk hq5
        clear hq1 hq2 hq3 hq4 hq5
        obtain ⟨o1, o2, o3, o4, hA0⟩ := hBA.out
        have hgg : Aside0 (ga ≠ gr) := ⟨by
          rintro rfl
          obtain ⟨_, _, h1, _⟩ := hR.out
          rw [hA0] at h1
          injection h1 with h1
          injection h1 with h1 _
          injection h1 with h1
          injection h1 with h1
          cases h1⟩
        have hA0 := Aside0.mk hA0
        go_wp2_with (first
          | (go_at_call 21; refine (rnum_calls _ gr xs e hR.out).mono ?_; rw [HQ1.out]; rintro q1 w1 ⟨rfl, hR1, hK1⟩; have hR1 := Aside0.mk hR1; have hK1 := Aside0.mk hK1)
          | (go_at_call 21; refine (rnum_calls _ gr xs1 e1 hR1.out).mono ?_; rw [HQ2.out]; rintro q2 w2 ⟨rfl, hR2, hK2⟩; have hR2 := Aside0.mk hR2; have hK2 := Aside0.mk (hK1.out.trans hK2))
          | (go_at_call 22; refine (rflag_calls _ gr xs2 e2 hR2.out).mono ?_; rw [HQ3.out]; rintro q3 w3 ⟨rfl, hR3, hK3⟩; have hR3 := Aside0.mk hR3; have hK3 := Aside0.mk (hK2.out.trans hK3))
          | (go_at_call 21; refine (rnum_calls _ gr xs3 e3 hR3.out).mono ?_; rw [HQ4.out]; rintro q4 w4 ⟨rfl, hR4, hK4⟩; have hR4 := Aside0.mk hR4; have hK4 := Aside0.mk (hK3.out.trans hK4))
          | (go_at_call 21; refine (rnum_calls _ gr xs4 e4 hR4.out).mono ?_; rw [HQ5.out]; rintro q5 w5 ⟨rfl, hR5, hK5⟩; have hR5 := Aside0.mk hR5; have hK5 := Aside0.mk (hK4.out.trans hK5);
              have hA5 := (hK5.out.1.2 ga (blk_lt hA0.out) hgg.out (by simp)).trans hA0.out;
              have hc0 := (blk_cell hA5 0).trans rfl; have hc1 := (blk_cell hA5 1).trans rfl; have hc2 := (blk_cell hA5 2).trans rfl; have hc3 := (blk_cell hA5 3).trans rfl;
              have hf0 := blk_frozen hA5 0; have hf1 := blk_frozen hA5 1; have hf2 := blk_frozen hA5 2; have hf3 := blk_frozen hA5 3; have hA5 := Aside0.mk hA5))
        have hA5' := hA5.out
        have hT5 : Aside0 (TbAt w5 g b m) := ⟨tb_other hT.out (fun e => by subst e; obtain ⟨_, _, h1, _⟩ := hR.out; exact absurd rfl (blk_ne hT.out.1 h1 (by decide))) (fun e => by subst e; obtain ⟨_, _, h1, _⟩ := hR.out; exact tb_ne h1 hT.out.2 rfl) hK5.out.1⟩
        have hB5 : Aside0 (Below w.heap.size w w5) := ⟨hB.out.trans (hK5.out.2.mono hr0)⟩
        generalize hW : ((((w5.setCell { block := ga, off := 0 } (Value.int IntKind.i64 s2)).setCell { block := ga, off := 1 } (Value.bool d3)).setCell { block := ga, off := 2 } (Value.int IntKind.i64 r4)).setCell { block := ga, off := 3 } (Value.int IntKind.i64 t5)) = W6
        have hA6 : Aside0 (W6.heap[ga]? = some (.cells #[.int .i64 s2, .bool d3, .int .i64 r4, .int .i64 t5] 29 (0, 0))) := ⟨by rw [← hW]; exact blk_put (blk_put (blk_put (blk_put hA5' 0 _ rfl) 1 _ rfl) 2 _ rfl) 3 _ rfl⟩
        have hK6 : Aside0 (KeepBut w5 W6 ga none) := ⟨by rw [← hW]; exact ((((KeepBut.refl _ _ _).set_ 0 _).set_ 1 _).set_ 2 _).set_ 3 _⟩
        have hB6 : Aside0 (Below w.heap.size w W6) := ⟨by rw [← hW]; exact (((hB5.out.setCell ha0 _).setCell ha0 _).setCell ha0 _).setCell ha0 _⟩
        have hR6 : Aside0 (RdAt W6 gr xs5 e5) := ⟨rd_other hR5.out (Ne.symm hgg.out) (nou8_ans hA5') hK6.out⟩
        have hT6 : Aside0 (TbAt W6 g b m) := ⟨tb_other hT5.out (blk_ne hT5.out.1 hA5' (by decide)) (fun e => by subst e; exact tb_ne hA5' hT5.out.2 rfl) hK6.out⟩
        clear hW hA5' hc0 hc1 hc2 hc3 hf0 hf1 hf2 hf3
        have hd' : Aside0 (decT bs = decFin bs (if entOk c1 ⟨s2, d3, r4, t5⟩ e5 then decLoop k xs5 e5 (mset c1 ⟨s2, d3, r4, t5⟩ m) else none)) := ⟨by rw [hd.out, decLoop, hrent.out]⟩
        have hc0 : W6.cell? ⟨ga, 0, none⟩ = some (.int .i64 s2) := (blk_cell hA6.out 0).trans rfl
        have hc1 : W6.cell? ⟨ga, 1, none⟩ = some (.bool d3) := (blk_cell hA6.out 1).trans rfl
        have hc2 : W6.cell? ⟨ga, 2, none⟩ = some (.int .i64 r4) := (blk_cell hA6.out 2).trans rfl
        have hc3 : W6.cell? ⟨ga, 3, none⟩ = some (.int .i64 t5) := (blk_cell hA6.out 3).trans rfl
        by_cases he : e5 = 0
        rotate_left
        · have he' : (e5 != 0) = true := by simpa using he
          have HE := Aside0.mk he
          have HS : Aside0 (soundB ⟨s2, d3, r4, t5⟩ = soundB ⟨s2, d3, r4, t5⟩) := ⟨rfl⟩
          clear he
          go_wp2_with (first
            | (go_at_call 23; refine (rerr_calls _ gr xs5 e5 hR6.out).mono ?_; rintro p1 v1 ⟨rfl, rfl⟩)
            | (go_at_call 14; refine (may_calls _ _).mono ?_; rintro p2 v2 ⟨rfl, rfl⟩)
            | (go_at_call 15; refine (sound_calls ⟨s2, d3, r4, t5⟩ _).mono ?_; rw [HS.out]; rintro p3 w7 ⟨rfl, hB7⟩; have hB7 := Aside0.mk hB7))
          simp only [jumps_ret]
          go_ret2
          exact ⟨hB6.out, .inl ⟨by rw [hd'.out, if_neg (by intro h; simp only [entOk, Bool.and_eq_true, beq_iff_eq] at h; exact HE.out h.1)]; rfl, rfl⟩⟩
        have he' : (e5 != 0) = false := by simpa using he
        have HE := Aside0.mk he
        clear he
        cases hmay : mayB c1 with
        | false =>
          have HS : Aside0 (soundB ⟨s2, d3, r4, t5⟩ = soundB ⟨s2, d3, r4, t5⟩) := ⟨rfl⟩
          go_wp2_with (first
            | (go_at_call 23; refine (rerr_calls _ gr xs5 e5 hR6.out).mono ?_; rintro p1 v1 ⟨rfl, rfl⟩)
            | (go_at_call 14; refine (may_calls _ _).mono ?_; rintro p2 v2 ⟨rfl, rfl⟩)
            | (go_at_call 15; refine (sound_calls ⟨s2, d3, r4, t5⟩ _).mono ?_; rw [HS.out]; rintro p3 w7 ⟨rfl, hB7⟩; have hB7 := Aside0.mk hB7))
          simp only [jumps_ret]
          go_ret2
          exact ⟨hB6.out, .inl ⟨by rw [hd'.out, if_neg (by simp [entOk, hmay])]; rfl, rfl⟩⟩
        | true =>
        have HM := Aside0.mk hmay
        by_cases hs1 : s2 < 1
        · have HS : Aside0 (soundB ⟨s2, d3, r4, t5⟩ = soundB ⟨s2, d3, r4, t5⟩) := ⟨rfl⟩
          have HS1 := Aside0.mk hs1
          go_wp2_with (first
            | (go_at_call 23; refine (rerr_calls _ gr xs5 e5 hR6.out).mono ?_; rintro p1 v1 ⟨rfl, rfl⟩)
            | (go_at_call 14; refine (may_calls _ _).mono ?_; rintro p2 v2 ⟨rfl, rfl⟩)
            | (go_at_call 15; refine (sound_calls ⟨s2, d3, r4, t5⟩ _).mono ?_; rw [HS.out]; rintro p3 w7 ⟨rfl, hB7⟩; have hB7 := Aside0.mk hB7))
          simp only [jumps_ret]
          go_ret2
          exact ⟨hB6.out, .inl ⟨by rw [hd'.out, if_neg (by have := HS1.out; simp [entOk]; omega)]; rfl, rfl⟩⟩
        have HS1 := Aside0.mk hs1
        cases hsd : soundB ⟨s2, d3, r4, t5⟩ with
        | false =>
          have HS := Aside0.mk hsd
          clear hsd
          go_wp2_with (first
            | (go_at_call 23; refine (rerr_calls _ gr xs5 e5 hR6.out).mono ?_; rintro p1 v1 ⟨rfl, rfl⟩)
            | (go_at_call 14; refine (may_calls _ _).mono ?_; rintro p2 v2 ⟨rfl, rfl⟩)
            | (go_at_call 15; refine (sound_calls ⟨s2, d3, r4, t5⟩ _).mono ?_; rw [HS.out]; rintro p3 w7 ⟨rfl, hB7⟩; have hB7 := Aside0.mk hB7))
          simp only [jumps_ret]
          go_ret2
          exact ⟨below_then hB6.out hB6.out.size hB7.out, .inl ⟨by rw [hd'.out, if_neg (by simp [entOk, HS.out])]; rfl, rfl⟩⟩
        | true =>
        have HS := Aside0.mk hsd
        clear hsd
        go_wp2_with (first
            | (go_at_call 23; refine (rerr_calls _ gr xs5 e5 hR6.out).mono ?_; rintro p1 v1 ⟨rfl, rfl⟩)
            | (go_at_call 14; refine (may_calls _ _).mono ?_; rintro p2 v2 ⟨rfl, rfl⟩)
            | (go_at_call 15; refine (sound_calls ⟨s2, d3, r4, t5⟩ _).mono ?_; rw [HS.out]; rintro p3 w7 ⟨rfl, hB7⟩; have hB7 := Aside0.mk hB7))
        have hT7 : Aside0 (TbAt w7 g b m) := ⟨⟨blk_below hT6.out.1 hB7.out, hT6.out.2.below hB7.out⟩⟩
        have hA7 : Aside0 (w7.heap[ga]? = some (.cells #[.int .i64 s2, .bool d3, .int .i64 r4, .int .i64 t5] 29 (0, 0))) := ⟨blk_below hA6.out hB7.out⟩
        have hR7 : Aside0 (RdAt w7 gr xs5 e5) := ⟨by
          obtain ⟨_, _, h1, _⟩ := hR6.out
          exact RdAt.keep hR6.out (hB7.out.block gr (blk_lt h1)) (KeepBut.of_below hB7.out _ _)⟩
        have hp7 : w7.cell? ⟨g, 0, none⟩ = some (.map (some b)) := (blk_cell hT7.out.1 0).trans rfl
        have hd1 : w7.cell? ⟨ga, 0, none⟩ = some (.int .i64 s2) := (blk_cell hA7.out 0).trans rfl
        have hd2 : w7.cell? ⟨ga, 1, none⟩ = some (.bool d3) := (blk_cell hA7.out 1).trans rfl
        have hd3 : w7.cell? ⟨ga, 2, none⟩ = some (.int .i64 r4) := (blk_cell hA7.out 2).trans rfl
        have hd4 : w7.cell? ⟨ga, 3, none⟩ = some (.int .i64 t5) := (blk_cell hA7.out 3).trans rfl
        obtain ⟨W8, hrun8, hI8, hg8, hsz8⟩ := run_put (P := Try.prog) (w := w7.drew) (hT7.out.2.move rfl) Try.underlying41 Try.underlying3 c1 (may_wf HM.out) ⟨s2, d3, r4, t5⟩ (by omega)
        have HI8 := Aside0.mk hI8
        have HG8 := Aside0.mk hg8
        have hrun8' : (Instr.mapUpdate 41 (.map (some b)) (.int .i64 c1) (.agg #[.int .i64 s2, .bool d3, .int .i64 r4, .int .i64 t5])).run Try.prog w7.drew = .ok () W8 := hrun8
        clear hrun8 hI8 hg8 hsz8 hc0 hc1 hc2 hc3
        refine start_ (n := 7) (S := fun w' => w'.cell? ⟨g, 0, none⟩ = some (.map (some b)) ∧ w'.cell? ⟨ga, 0, none⟩ = some (.int .i64 s2) ∧ w'.cell? ⟨ga, 1, none⟩ = some (.bool d3) ∧ w'.cell? ⟨ga, 2, none⟩ = some (.int .i64 r4) ∧ w'.cell? ⟨ga, 3, none⟩ = some (.int .i64 t5)) (ds := [6]) #[false, false, false, false, false, false, false] (by kernel_rfl) rfl rfl ⟨hp7, hd1, hd2, hd3, hd4⟩ (fun hHeld => ?_)
        refine pure_ (i := 0) (N := some 47) (v := ?_) (a' := ?_) #[true, false, false, false, false, false, false] rfl rfl (by kernel_rfl) (fun _ _ _ h => h) (Or.inl ⟨by rfl, ?_⟩) ?_ ?_
        rotate_left
        · intro w'
          go_simp
          with_reducible rfl
        rotate_left
        · simp only [Act.put, List.setIfInBounds_toArray, List.set_cons_zero, List.set_cons_succ, i64_w, i32_w]
          rfl
        refine pure_ (i := 1) (N := some 48) (v := ?_) (a' := ?_) #[true, true, false, false, false, false, false] rfl rfl (by kernel_rfl) (fun _ _ _ h => h) (Or.inl ⟨by rfl, ?_⟩) ?_ ?_
        rotate_left
        · intro w'
          go_simp
          with_reducible rfl
        rotate_left
        · simp only [Act.put, List.setIfInBounds_toArray, List.set_cons_zero, List.set_cons_succ, i64_w, i32_w]
          rfl
        refine pure_ (i := 2) (N := some 49) (v := ?_) (a' := ?_) #[true, true, true, false, false, false, false] rfl rfl (by kernel_rfl) (fun _ _ _ h => h) (Or.inl ⟨by rfl, ?_⟩) ?_ ?_
        rotate_left
        · intro w'
          go_simp
          with_reducible rfl
        rotate_left
        · simp only [Act.put, List.setIfInBounds_toArray, List.set_cons_zero, List.set_cons_succ, i64_w, i32_w]
          rfl
        refine pure_ (i := 4) (N := some 51) (v := ?_) (a' := ?_) #[true, true, true, false, true, false, false] rfl rfl (by kernel_rfl) (fun _ _ _ h => h) (Or.inl ⟨by rfl, ?_⟩) ?_ ?_
        rotate_left
        · intro w'
          go_simp
          with_reducible rfl
        rotate_left
        · simp only [Act.put, List.setIfInBounds_toArray, List.set_cons_zero, List.set_cons_succ, i64_w, i32_w]
          rfl
        refine take_ (i := 3) (N := some 50) (v := ?_) (a' := ?_) #[true, true, true, true, true, false, false] rfl rfl (by kernel_rfl) (fun _ _ _ h => h) (Or.inl ⟨by rfl, ?_⟩) hHeld ?_ ?_
        rotate_left
        · rintro w' ⟨s0, s1, s2, s3, s4⟩
          go_simp
          with_reducible rfl
        rotate_left
        · simp only [Act.put, List.setIfInBounds_toArray, List.set_cons_zero, List.set_cons_succ, i64_w, i32_w]
          rfl
        refine take_ (i := 5) (N := some 52) (v := ?_) (a' := ?_) #[true, true, true, true, true, true, false] rfl rfl (by kernel_rfl) (fun _ _ _ h => h) (Or.inl ⟨by rfl, ?_⟩) hHeld ?_ ?_
        rotate_left
        · rintro w' ⟨s0, s1, s2, s3, s4⟩
          go_simp
          with_reducible rfl
        rotate_left
        · simp only [Act.put, List.setIfInBounds_toArray, List.set_cons_zero, List.set_cons_succ, i64_w, i32_w]
          rfl
        refine last_ (i := 6) (N := none) #[true, true, true, true, true, true, true] rfl rfl (by kernel_rfl) (by decide) (fun K hK => ?_)
        refine skip_ (w1 := ?_) (by rfl) rfl ?_ ?_
        rotate_left
        · go_simp
          rfl
        refine hK.out _ _ ?_
        clear hK K
        refine done_ (by kernel_rfl) ?_

        simp only [Exit.then]
        have hk8 : KeepBut w7 W8 b none := ⟨HG8.out.size, fun i hi hib _ => HG8.out.block i hi (fun e => hib (by injection e))⟩
        have hT8 : TbAt W8 g b (mset c1 ⟨s2, d3, r4, t5⟩ m) := ⟨(hk8.2 g (blk_lt hT7.out.1) (fun e => tb_ne hT7.out.1 hT7.out.2 e) (by simp)).trans hT7.out.1, HI8.out⟩
        have hR8 : RdAt W8 gr xs5 e5 := rd_other hR7.out (fun e => by subst e; obtain ⟨_, _, h1, _⟩ := hR7.out; exact tb_ne h1 hT7.out.2 rfl) (nou8_map hT7.out.2) hk8
        have hA8 : W8.heap[ga]? = some (.cells #[.int .i64 s2, .bool d3, .int .i64 r4, .int .i64 t5] 29 (0, 0)) := (hk8.2 ga (blk_lt hA7.out) (fun e => by subst e; exact tb_ne hA7.out hT7.out.2 rfl) (by simp)).trans hA7.out
        have hB8 : Below w.heap.size w W8 := (below_then hB6.out hB6.out.size hB7.out).trans ⟨HG8.out.os, HG8.out.tape, HG8.out.output, HG8.out.size, fun i hi => HG8.out.block i (Nat.lt_of_lt_of_le hi (below_then hB6.out hB6.out.size hB7.out).size) (fun e => by injection e with e; omega)⟩
        have hG8 : ∀ p ∈ mset c1 ⟨s2, d3, r4, t5⟩ m, GoodE p := by
          intro p hp
          rcases mset_mem _ _ _ _ hp with hp | rfl
          · exact hG.out p hp
          · have f2 := rnum_fits xs1 e1; rw [HQ2.out] at f2
            have f4 := rnum_fits xs3 e3; rw [HQ4.out] at f4
            have f5 := rnum_fits xs4 e4; rw [HQ5.out] at f5
            exact ⟨HM.out, f2, f4, f5⟩
        have hD8 : decT bs = decFin bs (decLoop k xs5 e5 (mset c1 ⟨s2, d3, r4, t5⟩ m)) := by
          rw [hd'.out, if_pos]
          have := HS1.out
          simp only [entOk, HE.out, HM.out, HS.out, Bool.and_eq_true, beq_iff_eq, decide_eq_true_eq]
          exact ⟨trivial, trivial, by omega, trivial⟩
        have hL8 := mset_len c1 ⟨s2, d3, r4, t5⟩ m
        have H8 := Aside0.mk (⟨hT8, hR8, hA8, hB8, hG8, hD8⟩ : _ ∧ _ ∧ _ ∧ _ ∧ _ ∧ _)
        clear hT8 hR8 hA8 hB8 hG8 hD8 hk8
        go_wp2
        go_step3
        simp only [Exit.then]
        obtain ⟨hT8, hR8, hA8, hB8, hG8, hD8⟩ := H8.out
        refine ⟨.inl ⟨rfl, g, b, gr, ga, k, xs5, e5, mset c1 ⟨s2, d3, r4, t5⟩ m, by omega, ⟨hD8⟩, ⟨hT8⟩, ⟨hR8⟩, ⟨s2, d3, r4, t5, hA8⟩, ⟨hG8⟩, ⟨hB8⟩, hg0, hb0, hr0, ha0, _, _, _, _, _, _, _, _, _, _, _, _, _, _, _, _, _, _, _, _, _, _, _, _, _, _, _, _, _, _, _, _, _, _, _, _, _, _, _, _, _, _, _, _, _, _, _, _, _, _, _, _, _, _, _, _, _, _, _, rfl⟩, ?_⟩
        simp [intOf]
    · refine ⟨_, rfl, ?_⟩
      by_cases he : e = 0
      · have he' : (e != 0) = false := by simpa using he
        have HE := Aside0.mk he
        clear he
        have hC2 := Aside0.mk (Kd.C_below HC.out (hB.out))
        by_cases hq : encT m = bs
        · have hqb : (encT m == bs) = true := by simpa using hq
          have hres : Aside0 (decT bs = some m) := ⟨by rw [hd.out, decFin, if_pos ⟨HE.out, hq⟩]⟩
          clear hq
          go_wp2_with (first
            | (go_at_call 23; refine (rerr_calls _ gr xs e hR.out).mono ?_; rintro e1 w1 ⟨rfl, rfl⟩)
            | (go_at_call 9; refine (encode_calls _ g b m hT.out hG.out (by omega)).mono ?_; rintro e1 w1 ⟨v1, rfl, hR1, hB1⟩; obtain ⟨A1, c1, rfl, _, hC1⟩ := Kd.R_reads hR1; have hA1 := Aside0.mk (R_addr hR1); have hC1 := Aside0.mk hC1; have hB1 := Aside0.mk hB1; clear hR1)
            | (go_at_call 24; refine (bequal_calls _ A1 A c1 c (encT m) bs hC1.out (Kd.C_below hC2.out hB1.out) hA1.out HA.out (encT_range m) HBy.out).mono ?_; rw [hqb]; rintro e1 w2 ⟨rfl, rfl⟩))
          simp only [jumps_ret]
          go_ret2
          exact ⟨below_then hB.out hB.out.size hB1.out, .inr ⟨g, b, m, hres.out, rfl, hg0, hb0, ⟨blk_below hT.out.1 hB1.out, hT.out.2.below hB1.out⟩, hG.out, hml⟩⟩
        · have hqb : (encT m == bs) = false := by simpa using hq
          have hres : Aside0 (decT bs = none) := ⟨by rw [hd.out, decFin, if_neg (fun h => hq h.2)]⟩
          clear hq
          go_wp2_with (first
            | (go_at_call 23; refine (rerr_calls _ gr xs e hR.out).mono ?_; rintro e1 w1 ⟨rfl, rfl⟩)
            | (go_at_call 9; refine (encode_calls _ g b m hT.out hG.out (by omega)).mono ?_; rintro e1 w1 ⟨v1, rfl, hR1, hB1⟩; obtain ⟨A1, c1, rfl, _, hC1⟩ := Kd.R_reads hR1; have hA1 := Aside0.mk (R_addr hR1); have hC1 := Aside0.mk hC1; have hB1 := Aside0.mk hB1; clear hR1)
            | (go_at_call 24; refine (bequal_calls _ A1 A c1 c (encT m) bs hC1.out (Kd.C_below hC2.out hB1.out) hA1.out HA.out (encT_range m) HBy.out).mono ?_; rw [hqb]; rintro e1 w2 ⟨rfl, rfl⟩))
          simp only [jumps_ret]
          go_ret2
          exact ⟨below_then hB.out hB.out.size hB1.out, .inl ⟨hres.out, rfl⟩⟩
      · have he' : (e != 0) = true := by simpa using he
        have hres : Aside0 (decT bs = none) := ⟨by rw [hd.out, decFin, if_neg (fun h => he h.1)]⟩
        clear he
        go_wp2_with (go_at_call 23; refine (rerr_calls _ gr xs e hR.out).mono ?_; rintro e1 w1 ⟨rfl, rfl⟩)
        simp only [jumps_ret]
        go_ret2
        exact ⟨hB.out, .inl ⟨hres.out, rfl⟩⟩
  · intro hp
    obtain ⟨⟨n1, xs1, e1⟩, hq1⟩ : ∃ q, rmany 20 bs 0 = q := ⟨_, rfl⟩
    have hn : 0 ≤ n1 ∧ n1 ≤ 20 := by
      have h1 := rnum_fits bs 0
      unfold rmany at hq1
      split at hq1
      · injection hq1 with hq1 _; omega
      · rename_i hlt
        rw [hq1] at h1 hlt
        simp only [fitsB, Bool.and_eq_true, decide_eq_true_eq] at h1 hlt
        omega
    obtain ⟨k, rfl⟩ : ∃ k : Nat, n1 = (k : Int) := ⟨n1.toNat, by omega⟩
    have hk20 : k ≤ 20 := by omega
    have hd : Aside0 (decT bs = decFin bs (decLoop k xs1 e1 [])) := ⟨by rw [decT, hq1]; rfl⟩
    have HP := Aside0.mk hp
    have HQ1 := Aside0.mk hq1
    clear hp hq1 hn
    go_wp2_with (first
      | (go_at_call 5; refine (new_calls _).mono ?_; rintro q1 w1 ⟨g, b, rfl, hg0, hb0, hT, hB⟩; have hT := Aside0.mk hT; have hB := Aside0.mk hB)
      | (go_at_call 19; refine (newreader_calls A c bs _ (Kd.C_below HC.out hB.out) HA.out hl HBy.out).mono ?_; rintro q2 w2 ⟨gr, rfl, hr0, hR2, hB2⟩; have hR2 := Aside0.mk hR2; have hB2 := Aside0.mk hB2)
      | (go_at_call 20; refine (rmany_calls _ gr bs 0 20 hR2.out).mono ?_; rw [HQ1.out]; rintro q3 w3 ⟨rfl, hR3, hK3⟩; have hR3 := Aside0.mk hR3; have hK3 := Aside0.mk hK3))
    have hs1 := hB.out.size
    have hgl := blk_lt hT.out.1
    have hbl := hT.out.2.lt
    have hT3 : TbAt w3 g b [] := tb_other ⟨blk_below hT.out.1 hB2.out, hT.out.2.below hB2.out⟩ (by omega) (by omega) hK3.out.1
    have hB3 : Below w.heap.size w w3 := (below_then hB.out hB.out.size hB2.out).trans (hK3.out.2.mono (by omega))
    have hs3 := hB3.size
    have hal := below_alloc (Below.refl w3.heap.size w3) (.cells #[.int .i64 0, .bool false, .int .i64 0, .int .i64 0] 29)
    go_step3
    simp only [Exit.then]
    rename_i hK
    refine hK _ _ ?_
    refine HP.out 1 _ _ _ rfl (.inl ⟨rfl, g, b, gr, w3.heap.size, k, xs1, e1, [], by simpa using hk20, hd, ⟨blk_below hT3.1 hal, hT3.2.below hal⟩, ⟨RdAt.keep hR3.out ?_ (KeepBut.of_below hal _ _)⟩, ⟨0, false, 0, 0, blk_new _ _⟩, ⟨by simp⟩, ⟨below_then hB3 hs3 hal⟩, hg0, hb0, by omega, hs3, _, _, _, _, _, _, _, _, _, _, _, _, _, _, _, _, _, _, _, _, _, _, _, _, _, _, _, _, _, _, _, _, _, _, _, _, _, _, _, _, _, _, _, _, _, _, _, _, _, _, _, _, _, _, _, _, _, _, _, rfl⟩)
    obtain ⟨_, _, h1, _⟩ := hR3.out
    exact hal.block gr (blk_lt h1)
end Go.Proofs.Ytjigjchcmcmbhaa
