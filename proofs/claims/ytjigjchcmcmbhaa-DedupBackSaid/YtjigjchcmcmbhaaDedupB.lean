import Derived.Test.YtjigjchcmcmbhaaDedup
namespace Go.Proofs.Ytjigjchcmcmbhaa
open Go Go.RowKit Go.MapKept Go.Proofs.YtjigjchcmcmbhaaW.PrintWords Go.Proofs.YtjigjchcmcmbhaaW.PrintLast
set_option linter.unusedSimpArgs false
set_option linter.unusedVariables false

def keysL (m : List (Int × Ans)) : List Int := sortI (m.map Prod.fst)
theorem clients_calls (w : World) (g b : Nat) (m : List (Int × Ans)) (h : TbAt w g b m) :
    Calls Try.prog 12 #[.pointer (some ⟨g, 0, none⟩)] w fun e w' => ∃ v, e = .returned v ∧ (Kd.int .i64).R 3 w' w.heap.size tt v (keysL m) ∧ Below w.heap.size w w' := by
  have hc0 : w.cell? ⟨g, 0, none⟩ = some (.map (some b)) := (blk_cell h.1 0).trans rfl
  have HI := Aside0.mk h.2
  clear h
  go_enter Try.func12, Try.ntmps12
  go_wp2_with (first
    | (go_at_call 27; refine (keys_calls b _).mono ?_; rintro e w' ⟨rfl, rfl⟩)
    | (go_at_call 26; refine (sorted_calls b w.heap.size _ (HI.out.below (below_alloc (Below.refl _ _) _)) (by simp) ((blk_cell (blk_new w _) 0).trans rfl)).mono ?_; rintro e w1 ⟨v, rfl, hR, hB⟩; obtain ⟨A1, c1, rfl⟩ := Kd.R_slice hR; have hR := Aside0.mk hR; have hB := Aside0.mk hB))
  go_ret
  have hR2 := hR.out
  simp only [World.size_alloc] at hR2
  exact ⟨_, rfl, Kd.R_lower hR2 (by omega), below_then (below_alloc (Below.refl _ _) _) (by simp) hB.out⟩
/-- An entry that may be written. -/
def GoodE (p : Int × Ans) : Prop := mayB p.1 = true ∧ fitsB p.2.seq = true ∧ fitsB p.2.rev = true ∧ fitsB p.2.code = true
def entL (m : List (Int × Ans)) (c : Int) : List Int :=
  putI c ++ putI (lastA c m).seq ++ putI (if (lastA c m).done then 1 else 0) ++ putI (lastA c m).rev ++ putI (lastA c m).code
def encT (m : List (Int × Ans)) : List Int := putI m.length ++ (keysL m).flatMap (entL m)
theorem entL_len (m : List (Int × Ans)) (c : Int) : (entL m c).length ≤ 50 := by
  have := putI_len c; have := putI_len (lastA c m).seq; have := putI_len (if (lastA c m).done then 1 else 0); have := putI_len (lastA c m).rev; have := putI_len (lastA c m).code
  simp only [entL, List.length_append]; omega
theorem flat_len (m : List (Int × Ans)) : ∀ l : List Int, (l.flatMap (entL m)).length ≤ 50 * l.length
  | [] => by simp
  | c :: l => by
    have := flat_len m l; have := entL_len m c
    simp only [List.flatMap_cons, List.length_append, List.length_cons]; omega
theorem mget_some : ∀ (m : List (Int × Ans)) (c : Int), (∃ p ∈ m, p.1 = c) → ∃ a, mget c m = some a ∧ (c, a) ∈ m
  | [], c, ⟨p, hp, _⟩ => by cases hp
  | (y, q) :: r, c, h => by
    unfold mget
    by_cases e : y = c
    · subst e
      exact ⟨q, by simp, by simp⟩
    · rw [if_neg e]
      obtain ⟨p, hp, hpc⟩ := h
      rcases List.mem_cons.1 hp with rfl | hp
      · exact absurd hpc e
      · obtain ⟨a, h1, h2⟩ := mget_some r c ⟨p, hp, hpc⟩
        exact ⟨a, h1, by simp [h2]⟩
theorem may_fits {c : Int} (h : mayB c = true) : fitsB c = true := by
  simp only [mayB, fitsB, Bool.and_eq_true, decide_eq_true_eq] at h ⊢
  omega
theorem good_last (m : List (Int × Ans)) (hg : ∀ p ∈ m, GoodE p) (c : Int) (h : ∃ p ∈ m, p.1 = c) : fitsB c = true ∧ fitsB (lastA c m).seq = true ∧ fitsB (lastA c m).rev = true ∧ fitsB (lastA c m).code = true := by
  obtain ⟨a, h1, h2⟩ := mget_some m c h
  obtain ⟨g1, g2, g3, g4⟩ := hg _ h2
  simp only [lastA, h1, Option.getD_some]
  exact ⟨may_fits g1, g2, g3, g4⟩
theorem putL_pos (n : Nat) : 0 < (putL n).length := by simp [putL]
set_option maxRecDepth 100000 in
theorem encode_calls (w : World) (g b : Nat) (m : List (Int × Ans)) (h : TbAt w g b m) (hg : ∀ p ∈ m, GoodE p) (hl : m.length ≤ 1000) :
    Calls Try.prog 9 #[.pointer (some ⟨g, 0, none⟩)] w fun e w' => ∃ v, e = .returned v ∧ (Kd.int .u8).R 5 w' w.heap.size tt v (encT m) ∧ Below w.heap.size w w' := by
  have H := Aside0.mk h
  have HG := Aside0.mk hg
  clear h hg
  obtain ⟨l, hle⟩ : ∃ l, keysL m = l := ⟨_, rfl⟩
  have HLE := Aside0.mk hle
  have hkl : Aside0 (l.length = m.length) := ⟨by rw [← hle]; simp [keysL, sortI]⟩
  have hll : l.length ≤ 1000 := by have := hkl.out; omega
  have hfn : Aside0 (fitsB (l.length : Int) = true) := ⟨by simp [fitsB]; omega⟩
  clear hle
  have hgl := blk_lt H.out.1
  go_enter Try.func9, Try.ntmps9
  go_wp2_with (first
    | (go_at_call 12; refine (clients_calls w g b m H.out).mono ?_; rw [HLE.out]; rintro e w1 ⟨v1, rfl, hR1, hB1⟩; obtain ⟨A1, c1, rfl, hl1, _⟩ := Kd.R_reads hR1; have hR1 := Aside0.mk hR1; have hB1 := Aside0.mk hB1))
  refine (wnum_calls _ w.heap.size w1.heap.size [] false _ ⟨hB1.out.size, _, blk_new w1 _, Kd.R_nil _ _ _ _ _⟩ (by simp) (by have := hB1.out.size; simp; omega)).mono ?_
  rintro e w2 ⟨rfl, hw2, hb2, hk2⟩
  have hR2 := Aside0.mk (hk2.row (Kd.R_alloc hR1.out _) (by decide))
  have hB2 := Aside0.mk ((hB1.out.alloc hB1.out.size _).trans hb2)
  have hW2 : Aside0 (WrAt w2 w.heap.size w1.heap.size (putI (l.length : Int)) false) := ⟨by
    have h1 := hw2
    rw [hfn.out] at h1
    simpa using h1⟩
  clear hw2 hb2 hk2 hR1 hB1
  generalize w1.heap.size = G2 at hW2 ⊢
  clear hfn
  go_wp2
  go_loopw [18] (fun i wr => ∃ k : Nat, k ≤ l.length ∧ i = .int .i64 k ∧ Aside0 (WrAt wr w.heap.size G2 (putI (l.length : Int) ++ (l.take k).flatMap (entL m)) false) ∧ Aside0 ((Kd.int .i64).R 3 wr w.heap.size tt (.slice A1 l.length c1) l) ∧ Aside0 (Below w.heap.size w wr)) (fun i _ => l.length - (intOf i).toNat)
  case atStart => exact ⟨0, Nat.zero_le _, rfl, ⟨by simpa using hW2.out⟩, hR2, hB2⟩
  case round =>
    clear hR2 hB2 hW2
    obtain ⟨k, hk, rfl, hW3, hR3, hB3⟩ := hrel
    by_cases hlt : k < l.length
    · have hC3 := (Kd.R_reads' hR3.out).2.2
      obtain ⟨ad, rfl, hcell⟩ := Kd.at_int hC3 (k : Int) (by omega) (by omega)
      have hrd : rd l (k : Int) = l[k] := by simp [rd, hlt]
      rw [hrd] at hcell
      simp only [Int.toNat_natCast] at hcell
      clear hC3 hrd
      have htk : Aside0 (l.take (k + 1) = l.take k ++ [l[k]]) := ⟨by rw [List.take_succ_eq_append_getElem hlt]⟩
      have hmem : Aside0 (l[k] ∈ l) := ⟨List.getElem_mem hlt⟩
      generalize l[k] = c at hcell htk hmem
      have hT3 : TbAt wr g b m := ⟨(hB3.out.block g hgl).trans H.out.1, H.out.2.move (hB3.out.block b H.out.2.lt)⟩
      have hc0 : wr.cell? ⟨g, 0, none⟩ = some (.map (some b)) := (blk_cell hT3.1 0).trans rfl
      have hlk := look wr b m hT3.2 c
      have hgood : Aside0 (fitsB c = true ∧ fitsB (lastA c m).seq = true ∧ fitsB (lastA c m).rev = true ∧ fitsB (lastA c m).code = true) := ⟨by
        have h1 : c ∈ m.map Prod.fst := by
          have h2 := hmem.out
          rw [← HLE.out] at h2
          exact (List.mergeSort_perm _ _).mem_iff.1 h2
        obtain ⟨p, hp, rfl⟩ := List.mem_map.1 h1
        have h3 := good_last m HG.out p.1 ⟨p, hp, rfl⟩
        exact h3⟩
      have hent : Aside0 (entL m c = putI c ++ putI (lastA c m).seq ++ putI (if (lastA c m).done then 1 else 0) ++ putI (lastA c m).rev ++ putI (lastA c m).code) := ⟨rfl⟩
      obtain ⟨hfc, hfsq, hfrv, hfcd⟩ := hgood.out
      clear hgood hT3
      generalize (lastA c m).seq = sq at hlk hfsq hent
      generalize (lastA c m).done = dn at hlk hent
      generalize (lastA c m).rev = rv at hlk hfrv hent
      generalize (lastA c m).code = cd at hlk hfcd hent
      have Hfc := Aside0.mk hfc
      have Hfsq := Aside0.mk hfsq
      have Hfrv := Aside0.mk hfrv
      have Hfcd := Aside0.mk hfcd
      clear hfc hfsq hfrv hfcd
      go_wp2
      generalize hW : wr.alloc (.cells #[.int .i64 sq, .bool dn, .int .i64 rv, .int .i64 cd] 29) = W4
      have hn4 : W4.heap[wr.heap.size]? = some (.cells #[.int .i64 sq, .bool dn, .int .i64 rv, .int .i64 cd] 29 (0, 0)) := by rw [← hW]; exact blk_new _ _
      have hbw : Below wr.heap.size wr W4 := by rw [← hW]; exact below_alloc (Below.refl _ _) _
      have hb4 : Aside0 (Below w.heap.size w W4.drew) := ⟨(below_then hB3.out hB3.out.size hbw).drew⟩
      have hk4 : Aside0 (KeepT W4.drew W4.drew [48, 5]) := ⟨KeepT.refl _ _⟩
      have hR4 := Aside0.mk (Kd.R_below hR3.out (below_drew hbw))
      obtain ⟨P0, hP0⟩ : ∃ P0, P0 = putI (l.length : Int) ++ (l.take k).flatMap (entL m) := ⟨_, rfl⟩
      have hlen : P0.length ≤ 100000 := by
        rw [hP0, List.length_append]
        have := putI_len (l.length : Int)
        have := flat_len m (l.take k)
        have := List.length_take_le k l
        omega
      have hW4 : Aside0 (WrAt W4.drew w.heap.size G2 P0 false) := ⟨by
        obtain ⟨h1, v, h2, h3⟩ := hW3.out
        rw [hP0]
        exact ⟨h1, v, blk_below h2 (below_drew hbw), Kd.R_below h3 (below_drew hbw)⟩⟩
      have HP0 := Aside0.mk hP0
      clear hP0 hW hlk hc0 hcell hbw
      have hd1 : W4.cell? ⟨wr.heap.size, 0, none⟩ = some (.int .i64 sq) := (blk_cell hn4 0).trans rfl
      have hd2 : W4.cell? ⟨wr.heap.size, 1, none⟩ = some (.bool dn) := (blk_cell hn4 1).trans rfl
      have hd3 : W4.cell? ⟨wr.heap.size, 2, none⟩ = some (.int .i64 rv) := (blk_cell hn4 2).trans rfl
      have hd4 : W4.cell? ⟨wr.heap.size, 3, none⟩ = some (.int .i64 cd) := (blk_cell hn4 3).trans rfl
      refine start_ (n := 15) (S := fun w' => w'.cell? ⟨wr.heap.size, 0, none⟩ = some (.int .i64 sq) ∧ w'.cell? ⟨wr.heap.size, 1, none⟩ = some (.bool dn) ∧ w'.cell? ⟨wr.heap.size, 2, none⟩ = some (.int .i64 rv) ∧ w'.cell? ⟨wr.heap.size, 3, none⟩ = some (.int .i64 cd)) (ds := []) #[false, false, false, false, false, false, false, false, false, false, false, false, false, false, false] (by kernel_rfl) rfl rfl ⟨hd1, hd2, hd3, hd4⟩ (fun hHeld => ?_)
      refine pure_ (i := 0) (N := some 28) (v := ?_) (a' := ?_) #[true, false, false, false, false, false, false, false, false, false, false, false, false, false, false] rfl rfl (by kernel_rfl) (fun _ _ _ h => h) (Or.inl ⟨by rfl, ?_⟩) ?_ ?_
      rotate_left
      · intro w'
        go_simp
        with_reducible rfl
      rotate_left
      · simp only [Act.put, List.setIfInBounds_toArray, List.set_cons_zero, List.set_cons_succ, i64_w, i32_w]
        rfl
      refine pure_ (i := 1) (N := some 29) (v := ?_) (a' := ?_) #[true, true, false, false, false, false, false, false, false, false, false, false, false, false, false] rfl rfl (by kernel_rfl) (fun _ _ _ h => h) (Or.inl ⟨by rfl, ?_⟩) ?_ ?_
      rotate_left
      · intro w'
        go_simp
        with_reducible rfl
      rotate_left
      · simp only [Act.put, List.setIfInBounds_toArray, List.set_cons_zero, List.set_cons_succ, i64_w, i32_w]
        rfl
      refine pure_ (i := 3) (N := some 31) (v := ?_) (a' := ?_) #[true, true, false, true, false, false, false, false, false, false, false, false, false, false, false] rfl rfl (by kernel_rfl) (fun _ _ _ h => h) (Or.inl ⟨by rfl, ?_⟩) ?_ ?_
      rotate_left
      · intro w'
        go_simp
        with_reducible rfl
      rotate_left
      · simp only [Act.put, List.setIfInBounds_toArray, List.set_cons_zero, List.set_cons_succ, i64_w, i32_w]
        rfl
      refine pure_ (i := 6) (N := some 34) (v := ?_) (a' := ?_) #[true, true, false, true, false, false, true, false, false, false, false, false, false, false, false] rfl rfl (by kernel_rfl) (fun _ _ _ h => h) (Or.inl ⟨by rfl, ?_⟩) ?_ ?_
      rotate_left
      · intro w'
        go_simp
        with_reducible rfl
      rotate_left
      · simp only [Act.put, List.setIfInBounds_toArray, List.set_cons_zero, List.set_cons_succ, i64_w, i32_w]
        rfl
      refine pure_ (i := 9) (N := some 37) (v := ?_) (a' := ?_) #[true, true, false, true, false, false, true, false, false, true, false, false, false, false, false] rfl rfl (by kernel_rfl) (fun _ _ _ h => h) (Or.inl ⟨by rfl, ?_⟩) ?_ ?_
      rotate_left
      · intro w'
        go_simp
        with_reducible rfl
      rotate_left
      · simp only [Act.put, List.setIfInBounds_toArray, List.set_cons_zero, List.set_cons_succ, i64_w, i32_w]
        rfl
      refine pure_ (i := 12) (N := some 40) (v := ?_) (a' := ?_) #[true, true, false, true, false, false, true, false, false, true, false, false, true, false, false] rfl rfl (by kernel_rfl) (fun _ _ _ h => h) (Or.inl ⟨by rfl, ?_⟩) ?_ ?_
      rotate_left
      · intro w'
        go_simp
        with_reducible rfl
      rotate_left
      · simp only [Act.put, List.setIfInBounds_toArray, List.set_cons_zero, List.set_cons_succ, i64_w, i32_w]
        rfl
      refine take_ (i := 4) (N := some 32) (v := ?_) (a' := ?_) #[true, true, false, true, true, false, true, false, false, true, false, false, true, false, false] rfl rfl (by kernel_rfl) (fun _ _ _ h => h) (Or.inl ⟨by rfl, ?_⟩) hHeld ?_ ?_
      rotate_left
      · rintro w' ⟨s0, s1, s2, s3⟩
        go_simp
        with_reducible rfl
      rotate_left
      · simp only [Act.put, List.setIfInBounds_toArray, List.set_cons_zero, List.set_cons_succ, i64_w, i32_w]
        rfl
      refine take_ (i := 7) (N := some 35) (v := ?_) (a' := ?_) #[true, true, false, true, true, false, true, true, false, true, false, false, true, false, false] rfl rfl (by kernel_rfl) (fun _ _ _ h => h) (Or.inl ⟨by rfl, ?_⟩) hHeld ?_ ?_
      rotate_left
      · rintro w' ⟨s0, s1, s2, s3⟩
        go_simp
        with_reducible rfl
      rotate_left
      · simp only [Act.put, List.setIfInBounds_toArray, List.set_cons_zero, List.set_cons_succ, i64_w, i32_w]
        rfl
      refine take_ (i := 10) (N := some 38) (v := ?_) (a' := ?_) #[true, true, false, true, true, false, true, true, false, true, true, false, true, false, false] rfl rfl (by kernel_rfl) (fun _ _ _ h => h) (Or.inl ⟨by rfl, ?_⟩) hHeld ?_ ?_
      rotate_left
      · rintro w' ⟨s0, s1, s2, s3⟩
        go_simp
        with_reducible rfl
      rotate_left
      · simp only [Act.put, List.setIfInBounds_toArray, List.set_cons_zero, List.set_cons_succ, i64_w, i32_w]
        rfl
      refine take_ (i := 13) (N := some 41) (v := ?_) (a' := ?_) #[true, true, false, true, true, false, true, true, false, true, true, false, true, true, false] rfl rfl (by kernel_rfl) (fun _ _ _ h => h) (Or.inl ⟨by rfl, ?_⟩) hHeld ?_ ?_
      rotate_left
      · rintro w' ⟨s0, s1, s2, s3⟩
        go_simp
        with_reducible rfl
      rotate_left
      · simp only [Act.put, List.setIfInBounds_toArray, List.set_cons_zero, List.set_cons_succ, i64_w, i32_w]
        rfl
      refine one_ (i := 2) (N := some 30) #[true, true, true, true, true, false, true, true, false, true, true, false, true, true, false] rfl rfl (by kernel_rfl) (by decide) (fun K hK => ?_)
      refine goes_ Try.func16 (by kernel_rfl) rfl #[.pointer (some ⟨G2, 0, none⟩), .int .i64 c] (by rfl) rfl rfl (by simp only [List.map_toArray, List.map_cons, List.map_nil]; rfl) ?_
      with_reducible refine (wnum_calls _ w.heap.size G2 P0 false c hW4.out (by have := hlen; have := putI_len c; have := putI_len sq; have := putI_len (if dn then 1 else 0); have := putI_len rv; (try simp only [List.length_append]); omega) hb4.out.size).mono ?_
      rintro e W5 ⟨rfl, hw, hb, hk⟩
      refine ⟨_, rfl, ?_⟩
      rw [Hfc.out] at hw
      have hW5 := Aside0.mk hw
      clear hw
      have hb5 := Aside0.mk (hb4.out.trans hb)
      have hk5 := Aside0.mk (hk4.out.trans hk)
      have hn5 := hk.blk hn4 (by simp)
      clear hb hk
      refine hK.out _ _ ⟨(blk_cell hn5 0).trans rfl, (blk_cell hn5 1).trans rfl, (blk_cell hn5 2).trans rfl, (blk_cell hn5 3).trans rfl⟩ (fun hHeld => ?_)
      clear hK K
      refine norm_ (a' := ?_) ?_ ?_
      rotate_left
      · show Act.put _ (some 30) _ = _
        simp only [Act.put, List.setIfInBounds_toArray, List.set_cons_zero, List.set_cons_succ, i64_w, i32_w]
        rfl
      refine one_ (i := 5) (N := some 33) #[true, true, true, true, true, true, true, true, false, true, true, false, true, true, false] rfl rfl (by kernel_rfl) (by decide) (fun K hK => ?_)
      refine goes_ Try.func16 (by kernel_rfl) rfl #[.pointer (some ⟨G2, 0, none⟩), .int .i64 sq] (by rfl) rfl rfl (by simp only [List.map_toArray, List.map_cons, List.map_nil]; rfl) ?_
      with_reducible refine (wnum_calls _ w.heap.size G2 (P0 ++ putI c) false sq hW5.out (by have := hlen; have := putI_len c; have := putI_len sq; have := putI_len (if dn then 1 else 0); have := putI_len rv; (try simp only [List.length_append]); omega) hb5.out.size).mono ?_
      rintro e W6 ⟨rfl, hw, hb, hk⟩
      refine ⟨_, rfl, ?_⟩
      rw [Hfsq.out] at hw
      have hW6 := Aside0.mk hw
      clear hw
      have hb6 := Aside0.mk (hb5.out.trans hb)
      have hk6 := Aside0.mk (hk5.out.trans hk)
      have hn6 := hk.blk hn5 (by simp)
      clear hb hk
      refine hK.out _ _ ⟨(blk_cell hn6 0).trans rfl, (blk_cell hn6 1).trans rfl, (blk_cell hn6 2).trans rfl, (blk_cell hn6 3).trans rfl⟩ (fun hHeld => ?_)
      clear hK K
      refine norm_ (a' := ?_) ?_ ?_
      rotate_left
      · show Act.put _ (some 33) _ = _
        simp only [Act.put, List.setIfInBounds_toArray, List.set_cons_zero, List.set_cons_succ, i64_w, i32_w]
        rfl
      refine one_ (i := 8) (N := some 36) #[true, true, true, true, true, true, true, true, true, true, true, false, true, true, false] rfl rfl (by kernel_rfl) (by decide) (fun K hK => ?_)
      refine goes_ Try.func17 (by kernel_rfl) rfl #[.pointer (some ⟨G2, 0, none⟩), .bool dn] (by rfl) rfl rfl (by simp only [List.map_toArray, List.map_cons, List.map_nil]; rfl) ?_
      with_reducible refine (wflag_calls _ w.heap.size G2 ((P0 ++ putI c) ++ putI sq) false dn hW6.out (by have := hlen; have := putI_len c; have := putI_len sq; (try simp only [List.length_append]); omega) hb6.out.size).mono ?_
      rintro e W7 ⟨rfl, hw, hb, hk⟩
      refine ⟨_, rfl, ?_⟩
      have hW7 := Aside0.mk hw
      clear hw
      have hb7 := Aside0.mk (hb6.out.trans hb)
      have hk7 := Aside0.mk (hk6.out.trans hk)
      have hn7 := hk.blk hn6 (by simp)
      clear hb hk
      refine hK.out _ _ ⟨(blk_cell hn7 0).trans rfl, (blk_cell hn7 1).trans rfl, (blk_cell hn7 2).trans rfl, (blk_cell hn7 3).trans rfl⟩ (fun hHeld => ?_)
      clear hK K
      refine norm_ (a' := ?_) ?_ ?_
      rotate_left
      · show Act.put _ (some 36) _ = _
        simp only [Act.put, List.setIfInBounds_toArray, List.set_cons_zero, List.set_cons_succ, i64_w, i32_w]
        rfl
      refine one_ (i := 11) (N := some 39) #[true, true, true, true, true, true, true, true, true, true, true, true, true, true, false] rfl rfl (by kernel_rfl) (by decide) (fun K hK => ?_)
      refine goes_ Try.func16 (by kernel_rfl) rfl #[.pointer (some ⟨G2, 0, none⟩), .int .i64 rv] (by rfl) rfl rfl (by simp only [List.map_toArray, List.map_cons, List.map_nil]; rfl) ?_
      with_reducible refine (wnum_calls _ w.heap.size G2 (((P0 ++ putI c) ++ putI sq) ++ putI (if dn then 1 else 0)) false rv hW7.out (by have := hlen; have := putI_len c; have := putI_len sq; have := putI_len (if dn then 1 else 0); have := putI_len rv; (try simp only [List.length_append]); omega) hb7.out.size).mono ?_
      rintro e W8 ⟨rfl, hw, hb, hk⟩
      refine ⟨_, rfl, ?_⟩
      rw [Hfrv.out] at hw
      have hW8 := Aside0.mk hw
      clear hw
      have hb8 := Aside0.mk (hb7.out.trans hb)
      have hk8 := Aside0.mk (hk7.out.trans hk)
      have hn8 := hk.blk hn7 (by simp)
      clear hb hk
      refine hK.out _ _ ⟨(blk_cell hn8 0).trans rfl, (blk_cell hn8 1).trans rfl, (blk_cell hn8 2).trans rfl, (blk_cell hn8 3).trans rfl⟩ (fun hHeld => ?_)
      clear hK K
      refine norm_ (a' := ?_) ?_ ?_
      rotate_left
      · show Act.put _ (some 39) _ = _
        simp only [Act.put, List.setIfInBounds_toArray, List.set_cons_zero, List.set_cons_succ, i64_w, i32_w]
        rfl
      refine one_ (i := 14) (N := some 42) #[true, true, true, true, true, true, true, true, true, true, true, true, true, true, true] rfl rfl (by kernel_rfl) (by decide) (fun K hK => ?_)
      refine goes_ Try.func16 (by kernel_rfl) rfl #[.pointer (some ⟨G2, 0, none⟩), .int .i64 cd] (by rfl) rfl rfl (by simp only [List.map_toArray, List.map_cons, List.map_nil]; rfl) ?_
      with_reducible refine (wnum_calls _ w.heap.size G2 ((((P0 ++ putI c) ++ putI sq) ++ putI (if dn then 1 else 0)) ++ putI rv) false cd hW8.out (by have := hlen; have := putI_len c; have := putI_len sq; have := putI_len (if dn then 1 else 0); have := putI_len rv; (try simp only [List.length_append]); omega) hb8.out.size).mono ?_
      rintro e W9 ⟨rfl, hw, hb, hk⟩
      refine ⟨_, rfl, ?_⟩
      rw [Hfcd.out] at hw
      have hW9 := Aside0.mk hw
      clear hw
      have hb9 := Aside0.mk (hb8.out.trans hb)
      have hk9 := Aside0.mk (hk8.out.trans hk)
      have hn9 := hk.blk hn8 (by simp)
      clear hb hk
      refine hK.out _ _ ⟨(blk_cell hn9 0).trans rfl, (blk_cell hn9 1).trans rfl, (blk_cell hn9 2).trans rfl, (blk_cell hn9 3).trans rfl⟩ (fun hHeld => ?_)
      clear hK K
      refine norm_ (a' := ?_) ?_ ?_
      rotate_left
      · show Act.put _ (some 42) _ = _
        simp only [Act.put, List.setIfInBounds_toArray, List.set_cons_zero, List.set_cons_succ, i64_w, i32_w]
        rfl
      refine done_ (by kernel_rfl) ?_

      have hR9 := Aside0.mk (hk9.out.row hR4.out (by decide))
      (try simp only [Exit.then])
      go_wp2
      go_roundw
      case rel =>
        refine ⟨k + 1, by omega, by go_num, ⟨?_⟩, hR9, hb9⟩
        have h1 := hW9.out
        rw [htk.out, List.flatMap_append, ← List.append_assoc, ← HP0.out]
        simp only [List.flatMap_cons, List.flatMap_nil, List.append_nil, hent.out]
        simp only [List.append_assoc] at h1 ⊢
        exact h1
      case measure => simp [intOf]; omega
    · have hke : Aside0 (k = l.length) := ⟨by omega⟩
      have hWD : Aside0 (WrAt wr w.heap.size G2 (encT m) false) := ⟨by
        have h1 := hW3.out
        rw [hke.out, List.take_length] at h1
        unfold encT
        rw [HLE.out, ← hkl.out]
        exact h1⟩
      have hle2 : Aside0 ((encT m).length ≤ 1000000 ∧ 0 < (encT m).length) := ⟨by
        unfold encT
        rw [HLE.out, List.length_append]
        have := putI_len (m.length : Int)
        have := flat_len m l
        have h5 : 0 < (putI (m.length : Int)).length := by
          unfold putI
          rw [if_pos (by simp [fitsB]; omega)]
          exact putL_pos _
        omega⟩
      clear hke hW3
      go_wp2_with (go_at_call 18; refine (wdone_calls _ w.heap.size G2 (encT m) hWD.out hle2.out.2 hle2.out.1).mono ?_; rintro e w5 ⟨v5, rfl, hR5, hB5⟩; obtain ⟨A5, c5, rfl⟩ := Kd.R_slice hR5; have hR5 := Aside0.mk hR5; have hB5 := Aside0.mk hB5)
      go_ret
      exact ⟨_, rfl, Kd.R_lower hR5.out hB3.out.size, below_then hB3.out hB3.out.size hB5.out⟩
end Go.Proofs.Ytjigjchcmcmbhaa
