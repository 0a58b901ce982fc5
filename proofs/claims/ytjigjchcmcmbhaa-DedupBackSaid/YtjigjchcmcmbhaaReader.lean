import Derived.Test.YtjigjchcmcmbhaaCodec
namespace Go.Proofs.Ytjigjchcmcmbhaa
open Go Go.RowKit Go.MapKept Go.Proofs.YtjigjchcmcmbhaaW.PrintWords Go.Proofs.YtjigjchcmcmbhaaW.PrintLast
set_option linter.unusedSimpArgs false
set_option linter.unusedVariables false

/-! ### codec: the rest of the writer, the reader -/
theorem wflag_calls (w : World) (base g : Nat) (bs : List Int) (bad b : Bool) (h : WrAt w base g bs bad) (hl : bs.length ≤ 1000000) (hbase : base ≤ w.heap.size) :
    Calls Try.prog 17 #[.pointer (some ⟨g, 0, none⟩), .bool b] w fun e w' => e = .returned (.pointer (some ⟨g, 0, none⟩)) ∧ WrAt w' base g (bs ++ putI (if b then 1 else 0)) bad ∧ Below base w w' ∧ KeepT w w' [48, 5] := by
  have H := Aside0.mk h
  clear h
  cases b with
  | true =>
    go_enter Try.func17, Try.ntmps17
    go_wp2_with (go_at_call 16; refine (wnum_calls _ base g bs bad 1 H.out hl hbase).mono ?_; rintro e w1 ⟨rfl, h1, h2⟩; have h1 := Aside0.mk h1; have h2 := Aside0.mk h2)
    go_ret
    exact ⟨rfl, by simpa [fitsB] using h1.out, h2.out.1, h2.out.2⟩
  | false =>
    go_enter Try.func17, Try.ntmps17
    go_wp2_with (go_at_call 16; refine (wnum_calls _ base g bs bad 0 H.out hl hbase).mono ?_; rintro e w1 ⟨rfl, h1, h2⟩; have h1 := Aside0.mk h1; have h2 := Aside0.mk h2)
    go_ret
    exact ⟨rfl, by simpa [fitsB] using h1.out, h2.out.1, h2.out.2⟩
theorem clone_u8 (A : Option Addr) (c : Nat) (xs : List Int) (w : World) (h : (Kd.int .u8).C w A xs.length xs) (hA : ∀ a, A = some a → a = ⟨a.block, a.off, none⟩) (hl : xs.length ≤ 140737488355328) :
    Calls Try.prog 30 #[.slice A xs.length c] w fun e w' => ∃ v, e = .returned v ∧ (Kd.int .u8).R 5 w' w.heap.size tt v xs ∧ Below w.heap.size w w' := by
  rcases A with _ | a
  · have hx : xs = [] := by
      rcases xs with _ | ⟨x, r⟩
      · rfl
      · obtain ⟨ad, h1, _⟩ := h.2.2 (by simp)
        cases h1
    subst hx
    refine Calls.mono (AnyE.slices_Clone_nil Try.cloneL 0 c w) ?_
    rintro e w' ⟨rfl, rfl⟩
    exact ⟨_, rfl, Kd.R_nil _ _ _ _ _, Below.refl _ _⟩
  · obtain ⟨b, off, rfl⟩ : ∃ b off, a = ⟨b, off, none⟩ := ⟨_, _, hA a rfl⟩
    obtain ⟨i0, hi, hzz⟩ := Option.map_eq_some_iff.1 info_u8
    simp only [Prod.mk.injEq] at hzz
    have hcl := AnyE.slices_Clone Try.cloneL i0 (.int .u8 0) 1 1 hi hzz.1 hzz.2.1 hzz.2.2 rfl (by decide) (fun w => Try.sizeOf5 w) b off xs.length c (nums .u8 xs) w (by simp [nums]) (by have := Kd.C_max h; simpa [maxLen] using this) (by omega)
      (fun j u hu => by
        have hj : j < xs.length := by
          have := (List.getElem?_eq_some_iff.1 hu).1
          simpa [nums] using this
        obtain ⟨ad, h1, h2⟩ := Kd.at_int h (j : Int) (by omega) (by omega)
        injection h1 with h1
        subst h1
        have hrd : rd xs (j : Int) = xs[j] := by simp [rd, hj]
        rw [hrd] at h2
        have hadd : (⟨b, off, none⟩ : Addr).add (j : Int).toNat = ⟨b, off + j, none⟩ := by unfold Addr.add; split <;> simp_all
        rw [hadd] at h2
        rw [h2]
        simp [nums, hj] at hu
        rw [hu]) (by intro u hu; obtain ⟨x, _, rfl⟩ := List.mem_map.1 hu; rfl)
    refine Calls.mono hcl ?_
    rintro e w' ⟨v, rfl, ho, _, hb⟩
    exact ⟨v, rfl, Kd.R_of_own ho (fun _ _ => trivial), hb⟩
theorem wdone_calls (w : World) (base g : Nat) (bs : List Int) (h : WrAt w base g bs false) (hp : 0 < bs.length) (hl : bs.length ≤ 1000000) :
    Calls Try.prog 18 #[.pointer (some ⟨g, 0, none⟩)] w fun e w' => ∃ v, e = .returned (.tuple #[v, .bool true]) ∧ (Kd.int .u8).R 5 w' w.heap.size tt v bs ∧ Below w.heap.size w w' := by
  obtain ⟨hg, v, hblk, hR0⟩ := h
  have hR := Aside0.mk hR0
  obtain ⟨g1, c1, rfl, _⟩ := Kd.R_form hR0 hp
  have hC := Aside0.mk (Kd.R_reads' hR0).2.2
  have hc0 : w.cell? ⟨g, 0, none⟩ = some (.slice (some ⟨g1, 0, none⟩) bs.length c1) := (blk_cell hblk 0).trans rfl
  have hc1 : w.cell? ⟨g, 1, none⟩ = some (.bool false) := (blk_cell hblk 1).trans rfl
  clear hblk hR0
  go_enter Try.func18, Try.ntmps18
  go_wp2_with (go_at_call 30; refine (clone_u8 _ _ bs _ hC.out (by rintro a ⟨⟩; rfl) (by omega)).mono ?_; rintro e w1 ⟨v1, rfl, h1, h2⟩; have h1 := Aside0.mk h1; have h2 := Aside0.mk h2)
  go_ret2
  exact ⟨v1, rfl, h1.out, h2.out⟩

/-- Only block g has turned; what lies below it has not, nor have the streams. -/
def KeepO (w w' : World) (g : Nat) : Prop := KeepBut w w' g none ∧ Below g w w'
theorem KeepO.refl (w : World) (g : Nat) : KeepO w w g := ⟨KeepBut.refl _ _ _, Below.refl _ _⟩
theorem KeepO.trans {w w1 w2 : World} {g : Nat} (h : KeepO w w1 g) (k : KeepO w1 w2 g) : KeepO w w2 g := ⟨h.1.trans k.1 (.inl rfl), h.2.trans k.2⟩
theorem KeepO.set_ {w w1 : World} {g : Nat} (h : KeepO w w1 g) (i : Nat) (u : Value) : KeepO w (w1.setCell ⟨g, i, none⟩ u) g := ⟨h.1.set_ i u, h.2.setCell (Nat.le_refl g) u⟩
def RdAt (w : World) (g : Nat) (xs : List Int) (e : Int) : Prop :=
  ∃ A c, w.heap[g]? = some (.cells #[.slice A xs.length c, .int .i64 e] 66 (0, 0)) ∧ xs.length ≤ c ∧ (∀ x ∈ xs, 0 ≤ x ∧ x ≤ 255) ∧ ∀ W', KeepBut w W' g none → (Kd.int .u8).C W' A xs.length xs
theorem err_calls (w : World) (g : Nat) (v : Value) (e : Int) (h : w.heap[g]? = some (.cells #[v, .int .i64 e] 66 (0, 0))) :
    Calls Try.prog 23 #[.pointer (some ⟨g, 0, none⟩)] w fun e' w' => e' = .returned (.int .i64 e) ∧ w = w' := by
  have hc1 : w.cell? ⟨g, 1, none⟩ = some (.int .i64 e) := (blk_cell h 1).trans rfl
  clear h
  go_enter Try.func23, Try.ntmps23
  go_wp2
  go_ret
  exact ⟨rfl, rfl⟩
def failE (e e0 : Int) : Int := if e = 0 then e0 else e
theorem fails_calls (w : World) (g : Nat) (v : Value) (e e0 : Int) (h : w.heap[g]? = some (.cells #[v, .int .i64 e] 66 (0, 0))) :
    Calls Try.prog 31 #[.pointer (some ⟨g, 0, none⟩), .int .i64 e0] w fun e' w' => e' = .returned (.tuple #[]) ∧
      w'.heap[g]? = some (.cells #[v, .int .i64 (failE e e0)] 66 (0, 0)) ∧ KeepO w w' g := by
  have hc1 : w.cell? ⟨g, 1, none⟩ = some (.int .i64 e) := (blk_cell h 1).trans rfl
  have hf1 := blk_frozen h 1
  have H := Aside0.mk h
  clear h
  by_cases he : e = 0
  · have he' : (e == 0) = true := by simpa using he
    have he1 : Aside0 (e = 0) := ⟨he⟩
    clear he
    go_enter Try.func31, Try.ntmps31
    go_wp2_with (go_at_call 23; refine (err_calls _ g v e H.out).mono ?_; rintro e1 w1 ⟨rfl, rfl⟩)
    go_end0
    exact ⟨rfl, by rw [failE, if_pos he1.out]; exact blk_put H.out 1 _ rfl, (KeepO.refl _ _).set_ 1 _⟩
  · have he' : (e == 0) = false := by simpa using he
    have he1 : Aside0 (e ≠ 0) := ⟨he⟩
    clear he
    go_enter Try.func31, Try.ntmps31
    go_wp2_with (go_at_call 23; refine (err_calls _ g v e H.out).mono ?_; rintro e1 w1 ⟨rfl, rfl⟩)
    go_end0
    exact ⟨rfl, by rw [failE, if_neg he1.out]; exact H.out, KeepO.refl _ _⟩

def rnum (xs : List Int) (e : Int) : Int × List Int × Int :=
  if e = 0 then (if (getL xs 0 0).2.2 = 0 then ((getL xs 0 0).1, xs.drop (getL xs 0 0).2.1.toNat, 0) else (0, xs, 2)) else (0, xs, e)
theorem getL_ok : ∀ (xs : List Int) (i : Nat) (n : Int), (getL xs i n).2.2 = 0 → (i : Int) + 1 ≤ (getL xs i n).2.1 ∧ (getL xs i n).2.1 ≤ i + xs.length ∧ fitsB (getL xs i n).1 = true
  | [], i, n, h => by simp [getL] at h
  | c :: r, i, n, h => by
    unfold getL at h ⊢
    split at h
    · simp at h
    · rename_i h1
      rw [if_neg h1]
      split at h
      · rename_i h2
        rw [if_pos h2]
        split at h
        · rename_i h3
          rw [if_pos h3]
          simp only [List.length_cons]
          exact ⟨by omega, by omega, h3⟩
        · simp at h
      · rename_i h2
        rw [if_neg h2]
        obtain ⟨h3, h4, h5⟩ := getL_ok r (i + 1) _ h
        simp only [List.length_cons]
        exact ⟨by omega, by omega, h5⟩
theorem info_u8x : ∃ i, Try.prog.info? 5 = some i ∧ i.size = 1 := by
  obtain ⟨i, hi, hz⟩ := Option.map_eq_some_iff.1 info_u8
  simp only [Prod.mk.injEq] at hz
  exact ⟨i, hi, hz.2.1⟩
theorem RdAt.keep {w w1 : World} {g : Nat} {xs : List Int} {e : Int} (h : RdAt w g xs e) (hb : w1.heap[g]? = w.heap[g]?) (hk : KeepBut w w1 g none) : RdAt w1 g xs e := by
  obtain ⟨A, c, h1, h2, h3, h4⟩ := h
  exact ⟨A, c, hb.trans h1, h2, h3, fun W' hW => h4 W' (hk.trans hW (.inl rfl))⟩
set_option maxRecDepth 100000 in
theorem rnum_calls (w : World) (g : Nat) (xs : List Int) (e : Int) (h : RdAt w g xs e) :
    Calls Try.prog 21 #[.pointer (some ⟨g, 0, none⟩)] w fun e' w' => e' = .returned (.int .i64 (rnum xs e).1) ∧ RdAt w' g (rnum xs e).2.1 (rnum xs e).2.2 ∧ KeepO w w' g := by
  obtain ⟨A, c, hblk, hc, hby, hft⟩ := h
  have hc0 : w.cell? ⟨g, 0, none⟩ = some (.slice A xs.length c) := (blk_cell hblk 0).trans rfl
  have hf0 := blk_frozen hblk 0
  have H := Aside0.mk hblk
  have HB := Aside0.mk hby
  have HF := Aside0.mk hft
  have HC := Aside0.mk (hft w (KeepBut.refl _ _ _))
  clear hblk hby hft
  obtain ⟨i0, hi0, hi1⟩ := info_u8x
  go_enter Try.func21, Try.ntmps21
  go_wp2
  refine wp_scope_all (fun l a' w' => (l = 0 ∧ Aside0 ((rnum xs e).1 = 0 ∧ RdAt w' g (rnum xs e).2.1 (rnum xs e).2.2 ∧ KeepO w w' g) ∧ ∃ u1 u2 u3 u4 u5 u6 u7 u8 u9 u10 u11 u12 u13 u14 u15 u16 u17 u18 u19 u20 u21 u22 u23 u24 u25 u26 u27 u28 u29 u30 : Value, a' = { tmps := #[.pointer (some ⟨g, 0, none⟩), u1, u2, u3, u4, u5, u6, u7, u8, u9, u10, u11, u12, u13, u14, u15, u16, u17, u18, u19, u20, u21, u22, u23, u24, u25, u26, u27, u28, u29, u30], defers := [] }) ∨
      (l = 1 ∧ w = w' ∧ Aside0 (e = 0) ∧ Aside0 (rnum xs e = (0, xs, 2)) ∧ ∃ u1 u2 u3 u4 u5 u6 u7 u8 u9 u10 u11 u12 u13 u14 u15 u16 u17 u18 u19 u20 u21 u22 u23 u24 u25 u26 u27 u28 u29 u30 : Value, a' = { tmps := #[.pointer (some ⟨g, 0, none⟩), u1, u2, u3, u4, u5, u6, u7, u8, u9, u10, u11, u12, u13, u14, u15, u16, u17, u18, u19, u20, u21, u22, u23, u24, u25, u26, u27, u28, u29, u30], defers := [] })) (fun l _ _ => l) ?_ ?_
  · rintro l a' w' (⟨rfl, hr, u1, u2, u3, u4, u5, u6, u7, u8, u9, u10, u11, u12, u13, u14, u15, u16, u17, u18, u19, u20, u21, u22, u23, u24, u25, u26, u27, u28, u29, u30, rfl⟩ | ⟨rfl, rfl, he, hr, u1, u2, u3, u4, u5, u6, u7, u8, u9, u10, u11, u12, u13, u14, u15, u16, u17, u18, u19, u20, u21, u22, u23, u24, u25, u26, u27, u28, u29, u30, rfl⟩)
    · refine ⟨_, rfl, ?_⟩
      go_wp2
      simp only [jumps_ret]
      go_ret
      exact ⟨by simp [hr.out.1], hr.out.2⟩
    · refine ⟨_, rfl, ?_⟩
      go_wp2_with (go_at_call 31; refine (fails_calls _ g _ e 2 H.out).mono ?_; rintro e1 w1 ⟨rfl, hb1, hk1⟩; have hb1 := Aside0.mk hb1; have hk1 := Aside0.mk hk1)
      go_step3
      simp only [Exit.then]
      go_wp2
      simp only [jumps_ret]
      go_ret
      rw [hr.out]
      refine ⟨rfl, ⟨A, c, ?_, hc, HB.out, fun W' hW => HF.out W' (hk1.out.1.trans hW (.inl rfl))⟩, hk1.out⟩
      have := hb1.out
      rw [failE, if_pos he.out] at this
      exact this
  · intro hp
    by_cases he : e = 0
    · have he' : (e != 0) = false := by simpa using he
      have heA : Aside0 (e = 0) := ⟨he⟩
      clear he
      obtain ⟨⟨gn, gu, ge⟩, hq⟩ : ∃ q : Int × Int × Int, getL xs 0 0 = q := ⟨_, rfl⟩
      have hget := get_calls A c xs w HC.out HB.out
      rw [hq] at hget
      simp only [V3] at hget
      have Hget := Aside0.mk hget
      have hok := getL_ok xs 0 0
      rw [hq] at hok
      simp only at hok
      clear hget
      by_cases hge : ge = 0
      · subst hge
        obtain ⟨h1, h2, h3⟩ := hok rfl
        have hrn : Aside0 (rnum xs e = (gn, xs.drop gu.toNat, 0)) := ⟨by rw [rnum, if_pos heA.out, hq]; rfl⟩
        obtain ⟨A', hrun, hC', hlen'⟩ := print_drop_of (P := Try.prog) (Value.int .u8) (0 : Int) 32 5 .i64 Try.underlying32 hi0 hi1 A c xs gu (by omega) (by omega) hc
        have HC' := Aside0.mk hC'
        clear hC' hq hok
        go_wp2_with (first
          | (go_at_call 23; refine (err_calls _ g _ e H.out).mono ?_; rintro e1 w1 ⟨rfl, rfl⟩)
          | (go_at_call 32; refine Hget.out.mono ?_; rintro e1 w1 ⟨rfl, rfl⟩))
        simp only [jumps_ret]
        go_ret
        rw [hrn.out]
        refine ⟨rfl, ⟨A', c - gu.toNat, ?_, hlen', fun x hx => HB.out x (List.mem_of_mem_drop hx), fun W' hW => ?_⟩, (KeepO.refl _ _).set_ 0 _⟩
        · exact blk_put H.out 0 _ (by simp [heA.out])
        · exact Kd.C_of_reads (HC'.out W' (Kd.reads_of_C (HF.out W' (((KeepBut.refl w g none).set_ 0 _).trans hW (.inl rfl)))))
      · have hge' : (ge != 0) = true := by simpa using hge
        have hrn : Aside0 (rnum xs e = (0, xs, 2)) := ⟨by rw [rnum, if_pos heA.out, hq, if_neg hge]⟩
        clear hq hok hge
        go_wp2_with (first
          | (go_at_call 23; refine (err_calls _ g _ e H.out).mono ?_; rintro e1 w1 ⟨rfl, rfl⟩)
          | (go_at_call 32; refine Hget.out.mono ?_; rintro e1 w1 ⟨rfl, rfl⟩))
        go_step3
        simp only [Exit.then]
        exact .inr ⟨rfl, rfl, heA, hrn, _, _, _, _, _, _, _, _, _, _, _, _, _, _, _, _, _, _, _, _, _, _, _, _, _, _, _, _, _, _, rfl⟩
    · have he' : (e != 0) = true := by simpa using he
      have hrn : Aside0 (rnum xs e = (0, xs, e)) := ⟨by rw [rnum, if_neg he]⟩
      clear he
      go_wp2_with (go_at_call 23; refine (err_calls _ g _ e H.out).mono ?_; rintro e1 w1 ⟨rfl, rfl⟩)
      go_step3
      simp only [Exit.then]
      refine .inl ⟨rfl, ⟨by rw [hrn.out], ?_, KeepO.refl _ _⟩, _, _, _, _, _, _, _, _, _, _, _, _, _, _, _, _, _, _, _, _, _, _, _, _, _, _, _, _, _, _, rfl⟩
      rw [hrn.out]
      exact ⟨A, c, H.out, hc, HB.out, HF.out⟩

def rflag (xs : List Int) (e : Int) : Bool × List Int × Int :=
  ((rnum xs e).1 == 1, (rnum xs e).2.1, if 1 < (rnum xs e).1 then failE (rnum xs e).2.2 2 else (rnum xs e).2.2)
def rmany (most : Int) (xs : List Int) (e : Int) : Int × List Int × Int :=
  if most < (rnum xs e).1 then (0, (rnum xs e).2.1, failE (rnum xs e).2.2 3) else rnum xs e
theorem RdAt.fail {w w1 : World} {g : Nat} {xs : List Int} {e e0 : Int} (h : RdAt w g xs e)
    (hf : ∀ v, w.heap[g]? = some (.cells #[v, .int .i64 e] 66 (0, 0)) → w1.heap[g]? = some (.cells #[v, .int .i64 (failE e e0)] 66 (0, 0)) ∧ KeepO w w1 g) : RdAt w1 g xs (failE e e0) ∧ KeepO w w1 g := by
  obtain ⟨A, c, h1, h2, h3, h4⟩ := h
  obtain ⟨h5, h6⟩ := hf _ h1
  exact ⟨⟨A, c, h5, h2, h3, fun W' hW => h4 W' (h6.1.trans hW (.inl rfl))⟩, h6⟩
theorem rfail_calls (w : World) (g : Nat) (xs : List Int) (e e0 : Int) (h : RdAt w g xs e) :
    Calls Try.prog 31 #[.pointer (some ⟨g, 0, none⟩), .int .i64 e0] w fun e' w' => e' = .returned (.tuple #[]) ∧ RdAt w' g xs (failE e e0) ∧ KeepO w w' g := by
  obtain ⟨A, c, h1, h2, h3, h4⟩ := h
  refine (fails_calls w g _ e e0 h1).mono ?_
  rintro e1 w1 ⟨rfl, h5, h6⟩
  exact ⟨rfl, ⟨A, c, h5, h2, h3, fun W' hW => h4 W' (h6.1.trans hW (.inl rfl))⟩, h6⟩
theorem rerr_calls (w : World) (g : Nat) (xs : List Int) (e : Int) (h : RdAt w g xs e) :
    Calls Try.prog 23 #[.pointer (some ⟨g, 0, none⟩)] w fun e' w' => e' = .returned (.int .i64 e) ∧ w = w' := by
  obtain ⟨A, c, h1, h2, h3, h4⟩ := h
  exact err_calls w g _ e h1
theorem rflag_calls (w : World) (g : Nat) (xs : List Int) (e : Int) (h : RdAt w g xs e) :
    Calls Try.prog 22 #[.pointer (some ⟨g, 0, none⟩)] w fun e' w' => e' = .returned (.bool (rflag xs e).1) ∧ RdAt w' g (rflag xs e).2.1 (rflag xs e).2.2 ∧ KeepO w w' g := by
  have H := Aside0.mk h
  clear h
  by_cases h1 : 1 < (rnum xs e).1
  · have hr : Aside0 (rflag xs e = (((rnum xs e).1 == 1), (rnum xs e).2.1, failE (rnum xs e).2.2 2)) := ⟨by rw [rflag, if_pos h1]⟩
    generalize hq : rnum xs e = q at hr h1
    obtain ⟨n, xs1, e1⟩ := q
    have HQ := Aside0.mk hq
    clear hq
    simp only at h1 hr
    go_enter Try.func22, Try.ntmps22
    go_wp2_with (first
      | (go_at_call 21; refine (rnum_calls _ g xs e H.out).mono ?_; rw [HQ.out]; rintro e2 w1 ⟨rfl, hr1, hk1⟩; have hr1 := Aside0.mk hr1; have hk1 := Aside0.mk hk1)
      | (go_at_call 31; refine (rfail_calls _ g xs1 e1 2 hr1.out).mono ?_; rintro e3 w2 ⟨rfl, hr2, hk2⟩; have hr2 := Aside0.mk hr2; have hk2 := Aside0.mk hk2))
    go_ret
    rw [hr.out]
    exact ⟨rfl, hr2.out, hk1.out.trans hk2.out⟩
  · have hr : Aside0 (rflag xs e = (((rnum xs e).1 == 1), (rnum xs e).2.1, (rnum xs e).2.2)) := ⟨by rw [rflag, if_neg h1]⟩
    generalize hq : rnum xs e = q at hr h1
    obtain ⟨n, xs1, e1⟩ := q
    have HQ := Aside0.mk hq
    clear hq
    simp only at h1 hr
    go_enter Try.func22, Try.ntmps22
    go_wp2_with (first
      | (go_at_call 21; refine (rnum_calls _ g xs e H.out).mono ?_; rw [HQ.out]; rintro e2 w1 ⟨rfl, hr1, hk1⟩; have hr1 := Aside0.mk hr1; have hk1 := Aside0.mk hk1))
    go_ret
    rw [hr.out]
    exact ⟨rfl, hr1.out, hk1.out⟩
theorem rmany_calls (w : World) (g : Nat) (xs : List Int) (e most : Int) (h : RdAt w g xs e) :
    Calls Try.prog 20 #[.pointer (some ⟨g, 0, none⟩), .int .i64 most] w fun e' w' => e' = .returned (.int .i64 (rmany most xs e).1) ∧ RdAt w' g (rmany most xs e).2.1 (rmany most xs e).2.2 ∧ KeepO w w' g := by
  have H := Aside0.mk h
  clear h
  by_cases h1 : most < (rnum xs e).1
  · have hr : Aside0 (rmany most xs e = (0, (rnum xs e).2.1, failE (rnum xs e).2.2 3)) := ⟨by rw [rmany, if_pos h1]⟩
    generalize hq : rnum xs e = q at hr h1
    obtain ⟨n, xs1, e1⟩ := q
    have HQ := Aside0.mk hq
    clear hq
    simp only at h1 hr
    go_enter Try.func20, Try.ntmps20
    go_wp2_with (first
      | (go_at_call 21; refine (rnum_calls _ g xs e H.out).mono ?_; rw [HQ.out]; rintro e2 w1 ⟨rfl, hr1, hk1⟩; have hr1 := Aside0.mk hr1; have hk1 := Aside0.mk hk1)
      | (go_at_call 31; refine (rfail_calls _ g xs1 e1 3 hr1.out).mono ?_; rintro e3 w2 ⟨rfl, hr2, hk2⟩; have hr2 := Aside0.mk hr2; have hk2 := Aside0.mk hk2))
    go_ret
    rw [hr.out]
    exact ⟨rfl, hr2.out, hk1.out.trans hk2.out⟩
  · have hr : Aside0 (rmany most xs e = rnum xs e) := ⟨by rw [rmany, if_neg h1]⟩
    generalize hq : rnum xs e = q at hr h1
    obtain ⟨n, xs1, e1⟩ := q
    have HQ := Aside0.mk hq
    clear hq
    simp only at h1 hr
    go_enter Try.func20, Try.ntmps20
    go_wp2_with (first
      | (go_at_call 21; refine (rnum_calls _ g xs e H.out).mono ?_; rw [HQ.out]; rintro e2 w1 ⟨rfl, hr1, hk1⟩; have hr1 := Aside0.mk hr1; have hk1 := Aside0.mk hk1))
    go_ret
    rw [hr.out]
    exact ⟨rfl, hr1.out, hk1.out⟩

theorem newreader_calls (A : Option Addr) (c : Nat) (xs : List Int) (w : World) (h : (Kd.int .u8).C w A xs.length xs) (hA : ∀ a, A = some a → a = ⟨a.block, a.off, none⟩) (hl : xs.length ≤ 140737488355328) (hby : ∀ x ∈ xs, 0 ≤ x ∧ x ≤ 255) :
    Calls Try.prog 19 #[.slice A xs.length c] w fun e w' => ∃ g, e = .returned (.pointer (some ⟨g, 0, none⟩)) ∧ w.heap.size ≤ g ∧ RdAt w' g xs 0 ∧ Below w.heap.size w w' := by
  have H := Aside0.mk h
  have HA := Aside0.mk hA
  have HB := Aside0.mk hby
  clear h hA hby
  go_enter Try.func19, Try.ntmps19
  go_wp2_with (go_at_call 30; refine (clone_u8 _ _ xs _ H.out HA.out hl).mono ?_; rintro e w1 ⟨v1, rfl, h1, h2⟩; obtain ⟨A1, c1, rfl, hl1, _⟩ := Kd.R_reads h1; have h1 := Aside0.mk h1; have h2 := Aside0.mk h2)
  go_ret
  have hn : (w1.alloc (.cells #[.slice A1 xs.length c1, .int .i64 0] 66)).heap[w1.heap.size]? = some (.cells #[.slice A1 xs.length c1, .int .i64 0] 66 (0, 0)) := blk_new _ _
  refine ⟨w1.heap.size, rfl, h2.out.size, ⟨A1, c1, hn, hl1, HB.out, fun W' hW => ?_⟩, h2.out.alloc h2.out.size _⟩
  exact (Kd.R_reads' (Kd.R_keep (Kd.R_types (Kd.R_alloc h1.out _) hn (by decide)) hW (fun k hk => hk.2))).2.2
end Go.Proofs.Ytjigjchcmcmbhaa
