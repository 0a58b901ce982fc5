import Derived.Test.YtjigjchcmcmbhaaNum
import Derived.Deep.RegionHeld3
namespace Go.Proofs.Ytjigjchcmcmbhaa
open Go Go.RowKit Go.MapKept Go.Proofs.YtjigjchcmcmbhaaW.PrintWords Go.Proofs.YtjigjchcmcmbhaaW.PrintLast
set_option linter.unusedSimpArgs false
set_option linter.unusedVariables false

/-! ### codec: the writer -/
def putI (n : Int) : List Int := if fitsB n then putL n.toNat else []
theorem put_calls (n : Int) (w : World) : Calls Try.prog 29 #[.int .i64 n] w fun e w' => ∃ v, e = .returned v ∧ (Kd.int .u8).R 5 w' w.heap.size tt v (putI n) ∧ Below w.heap.size w w' := by
  by_cases h : fitsB n = true
  · have h' := h
    simp [fitsB] at h'
    obtain ⟨m, rfl⟩ := Int.eq_ofNat_of_zero_le h'.1
    refine (put_yes m w h (by omega)).mono ?_
    rintro e w' ⟨v, rfl, hR, hB⟩
    exact ⟨v, rfl, by simp only [putI, if_pos h, Int.toNat_natCast]; exact hR, hB⟩
  · have h' : fitsB n = false := by simpa using h
    refine (put_no n w h').mono ?_
    rintro e w' ⟨rfl, rfl⟩
    exact ⟨_, rfl, by simp only [putI, if_neg h]; exact Kd.R_nil _ _ _ _ _, Below.refl _ _⟩
theorem below_undrew {w W : World} (h : Below w.drew.heap.size w.drew W) : Below w.heap.size w W := ⟨h.os, h.tape, h.output, h.size, h.block⟩
def WrAt (w : World) (base g : Nat) (bs : List Int) (bad : Bool) : Prop :=
  base ≤ g ∧ ∃ v, w.heap[g]? = some (.cells #[v, .bool bad] 48 (0, 0)) ∧ (Kd.int .u8).R 5 w base tt v bs
theorem putL_len (n : Nat) (h : n ≤ 1099511627776) : (putL n).length ≤ 10 := by
  have key : ∀ (k m : Nat), m < 128 ^ k → (putTail m).length ≤ k := by
    intro k
    induction k with
    | zero => intro m hm; have : m = 0 := by omega
              subst this; rw [putTail_zero]; simp
    | succ k ih =>
      intro m hm
      rcases Nat.eq_zero_or_pos m with rfl | hp
      · rw [putTail_zero]; simp
      · rw [putTail_pos m hp, List.length_cons]
        have := ih (m / 128) (by rw [Nat.div_lt_iff_lt_mul (by omega)]; rw [Nat.pow_succ] at hm; exact hm)
        omega
  have := key 9 (n / 128) (by omega)
  simp [putL]; omega
theorem putI_len (n : Int) : (putI n).length ≤ 10 := by
  unfold putI
  split
  · rename_i h
    simp [fitsB] at h
    exact putL_len _ (by omega)
  · simp
set_option maxRecDepth 100000 in
theorem wnum_calls (w : World) (base g : Nat) (bs : List Int) (bad : Bool) (n : Int) (h : WrAt w base g bs bad) (hl : bs.length ≤ 1000000) (hbase : base ≤ w.heap.size) :
    Calls Try.prog 16 #[.pointer (some ⟨g, 0, none⟩), .int .i64 n] w fun e w' => e = .returned (.pointer (some ⟨g, 0, none⟩)) ∧ WrAt w' base g (bs ++ putI n) (bad || !fitsB n) ∧ Below base w w' ∧ KeepT w w' [48, 5] := by
  obtain ⟨hg, v, hblk, hR0⟩ := h
  have hR := Aside0.mk hR0
  have hlt : g < w.heap.size := (Array.getElem?_eq_some_iff.1 hblk).1
  have hc0 : w.cell? ⟨g, 0, none⟩ = some v := (blk_cell hblk 0).trans rfl
  have hc1 : w.cell? ⟨g, 1, none⟩ = some (.bool bad) := (blk_cell hblk 1).trans rfl
  have hf0 := blk_frozen hblk 0
  have hf1 := blk_frozen hblk 1
  have HBlk := Aside0.mk hblk
  clear hR0 hblk
  cases bad with
  | true =>
    go_enter Try.func16, Try.ntmps16
    go_wp2
    generalize hW : w.setCell ⟨g, 1, none⟩ (.bool true) = W
    have hblk1 : W.heap[g]? = some (.cells #[v, .bool true] 48 (0, 0)) := by rw [← hW]; exact blk_put HBlk.out 1 _ rfl
    have hR1 : Aside0 ((Kd.int .u8).R 5 W base tt v bs) := ⟨by rw [← hW]; exact Kd.R_set hR.out HBlk.out (by decide) 1 _⟩
    have hBW : Aside0 (Below base w W) := ⟨by rw [← hW]; exact (Below.refl _ _).setCell hg _⟩
    have hsz : w.heap.size ≤ W.heap.size := hBW.out.size
    have hkW : Aside0 (KeepT w W [48, 5]) := ⟨by rw [← hW]; exact KeepT.of_set HBlk.out (by simp)⟩
    clear hW hc0 hc1 hf0 hf1 hR HBlk
    have hc0 : W.cell? ⟨g, 0, none⟩ = some v := (blk_cell hblk1 0).trans rfl
    have hf0 := blk_frozen hblk1 0
    have HBlk1 := Aside0.mk hblk1
    have hne := Aside0.mk (Kd.R_ne hR1.out hblk1 (by decide))
    have hgW := Aside0.mk (blk_lt hblk1)
    clear hblk1
    refine start_ (n := 11) (S := fun w' => w'.cell? ⟨g, 0, none⟩ = some v ∧ w'.frozen? ⟨g, 0, none⟩ = false) (ds := [10]) #[false, false, false, false, false, false, false, false, false, false, false] (by kernel_rfl) rfl rfl ⟨hc0, hf0⟩ (fun hHeld => ?_)
    refine pure_ (i := 0) (N := some 19) (v := ?_) (a' := ?_) #[true, false, false, false, false, false, false, false, false, false, false] rfl rfl (by kernel_rfl) (fun _ _ _ h => h) (Or.inl ⟨by rfl, ?_⟩) ?_ ?_
    rotate_left
    · intro w'
      go_simp
      with_reducible rfl
    rotate_left
    · simp only [Act.put, List.setIfInBounds_toArray, List.set_cons_zero, List.set_cons_succ, i64_w, i32_w]
      rfl
    refine pure_ (i := 1) (N := some 20) (v := ?_) (a' := ?_) #[true, true, false, false, false, false, false, false, false, false, false] rfl rfl (by kernel_rfl) (fun _ _ _ h => h) (Or.inl ⟨by rfl, ?_⟩) ?_ ?_
    rotate_left
    · intro w'
      go_simp
      with_reducible rfl
    rotate_left
    · simp only [Act.put, List.setIfInBounds_toArray, List.set_cons_zero, List.set_cons_succ, i64_w, i32_w]
      rfl
    refine pure_ (i := 2) (N := some 21) (v := ?_) (a' := ?_) #[true, true, true, false, false, false, false, false, false, false, false] rfl rfl (by kernel_rfl) (fun _ _ _ h => h) (Or.inl ⟨by rfl, ?_⟩) ?_ ?_
    rotate_left
    · intro w'
      go_simp
      with_reducible rfl
    rotate_left
    · simp only [Act.put, List.setIfInBounds_toArray, List.set_cons_zero, List.set_cons_succ, i64_w, i32_w]
      rfl
    refine pure_ (i := 3) (N := some 22) (v := ?_) (a' := ?_) #[true, true, true, true, false, false, false, false, false, false, false] rfl rfl (by kernel_rfl) (fun _ _ _ h => h) (Or.inl ⟨by rfl, ?_⟩) ?_ ?_
    rotate_left
    · intro w'
      go_simp
      with_reducible rfl
    rotate_left
    · simp only [Act.put, List.setIfInBounds_toArray, List.set_cons_zero, List.set_cons_succ, i64_w, i32_w]
      rfl
    refine pure_ (i := 5) (N := some 24) (v := ?_) (a' := ?_) #[true, true, true, true, false, true, false, false, false, false, false] rfl rfl (by kernel_rfl) (fun _ _ _ h => h) (Or.inl ⟨by rfl, ?_⟩) ?_ ?_
    rotate_left
    · intro w'
      go_simp
      with_reducible rfl
    rotate_left
    · simp only [Act.put, List.setIfInBounds_toArray, List.set_cons_zero, List.set_cons_succ, i64_w, i32_w]
      rfl
    refine take_ (i := 4) (N := some 23) (v := ?_) (a' := ?_) #[true, true, true, true, true, true, false, false, false, false, false] rfl rfl (by kernel_rfl) (fun _ _ _ h => h) (Or.inl ⟨by rfl, ?_⟩) hHeld ?_ ?_
    rotate_left
    · rintro w' ⟨s0, s1⟩
      go_simp
      with_reducible rfl
    rotate_left
    · simp only [Act.put, List.setIfInBounds_toArray, List.set_cons_zero, List.set_cons_succ, i64_w, i32_w]
      rfl
    refine one_ (i := 6) (N := some 25) #[true, true, true, true, true, true, true, false, false, false, false] rfl rfl (by kernel_rfl) (by decide) (fun K hK => ?_)
    refine goes_ Try.func29 (by kernel_rfl) rfl #[.int .i64 n] (by rfl) rfl rfl (by simp only [List.map_toArray, List.map_cons, List.map_nil]; rfl) ?_
    with_reducible refine (put_calls _ _).mono ?_
    rintro e w2 ⟨v2, rfl, hR2, hB2⟩
    refine ⟨_, rfl, ?_⟩
    obtain ⟨A2, c2, rfl, hl2, hC2⟩ := Kd.R_reads hR2
    have hb2 := Aside0.mk (below_undrew hB2)
    have hC2 := Aside0.mk hC2
    refine hK.out _ _ ⟨(hb2.out.cell (p := ⟨g, 0, none⟩) hgW.out).trans hc0, (hb2.out.frozen (p := ⟨g, 0, none⟩) hgW.out).trans hf0⟩ (fun hHeld => ?_)
    clear hK K
    refine norm_ (a' := ?_) ?_ ?_
    rotate_left
    · show Act.put _ (some 25) _ = _
      simp only [Act.put, List.setIfInBounds_toArray, List.set_cons_zero, List.set_cons_succ, i64_w, i32_w]
      rfl
    refine one_ (i := 7) (N := some 26) #[true, true, true, true, true, true, true, true, false, false, false] rfl rfl (by kernel_rfl) (by decide) (fun K hK => ?_)
    refine Kd.R_append_rows_step (Kd.int .u8) (w0 := w) base (by rfl) _ _ _ _ (.int .u8 0) 1 (by rfl) Try.underlying32 info_u8 rfl (by decide) (by decide) v bs (putI n) A2 (putI n).length c2 tt ff (by rfl) (by rfl) (Kd.R_below hR1.out hb2.out) hC2.out (fun _ _ h => h) (fun _ hk => hk.elim) (fun _ _ => trivial) (hBW.out.trans (Below.mono hb2.out (by omega))) (by have := hb2.out.size; omega) (by have := putI_len n; omega) ?_
    intro v3 w3 hR3 hB3 hg3 _
    obtain ⟨A3, c3, rfl⟩ := Kd.R_slice hR3
    have hblk3 : w3.heap[g]? = some (.cells #[v, .bool true] 48 (0, 0)) := blk_grown (blk_below HBlk1.out hb2.out) hg3 hne.out
    have hc3 : w3.cell? ⟨g, 0, none⟩ = some v := (blk_cell hblk3 0).trans rfl
    have hf3 := blk_frozen hblk3 0
    refine hK.out _ _ ⟨hc3, hf3⟩ (fun hHeld => ?_)
    clear hK K
    refine norm_ (a' := ?_) ?_ ?_
    rotate_left
    · show Act.put _ (some 26) _ = _
      simp only [Act.put, List.setIfInBounds_toArray, List.set_cons_zero, List.set_cons_succ, i64_w, i32_w]
      rfl
    refine pure_ (i := 8) (N := some 27) (v := ?_) (a' := ?_) #[true, true, true, true, true, true, true, true, true, false, false] rfl rfl (by kernel_rfl) (fun _ _ _ h => h) (Or.inl ⟨by rfl, ?_⟩) ?_ ?_
    rotate_left
    · intro w'
      go_simp
      with_reducible rfl
    rotate_left
    · simp only [Act.put, List.setIfInBounds_toArray, List.set_cons_zero, List.set_cons_succ, i64_w, i32_w]
      rfl
    refine pure_ (i := 9) (N := some 28) (v := ?_) (a' := ?_) #[true, true, true, true, true, true, true, true, true, true, false] rfl rfl (by kernel_rfl) (fun _ _ _ h => h) (Or.inl ⟨by rfl, ?_⟩) ?_ ?_
    rotate_left
    · intro w'
      go_simp
      with_reducible rfl
    rotate_left
    · simp only [Act.put, List.setIfInBounds_toArray, List.set_cons_zero, List.set_cons_succ, i64_w, i32_w]
      rfl
    refine last_ (i := 10) (N := none) #[true, true, true, true, true, true, true, true, true, true, true] rfl rfl (by kernel_rfl) (by decide) (fun K hK => ?_)
    refine skip_ (w1 := ?_) (by rfl) rfl ?_ ?_
    rotate_left
    · go_simp
      rfl
    refine hK.out _ _ ?_
    clear hK K
    refine done_ (by kernel_rfl) ?_

    have HBlk3 := Aside0.mk hblk3
    have hR3 := Aside0.mk hR3
    have hB3 := Aside0.mk hB3
    have hk3 : Aside0 (KeepT w w3 [48, 5]) := ⟨(hkW.out.trans (KeepT.of_below hb2.out)).trans (KeepT.of_row (Kd.R_below hR1.out hb2.out) hg3 (by simp))⟩
    clear hblk3 hg3
    go_wp2
    go_ret
    refine ⟨rfl, ⟨hg, _, blk_put HBlk3.out 0 _ (by simp), Kd.R_set hR3.out HBlk3.out (by decide) 0 _⟩, hB3.out.setCell hg _, hk3.out.trans (KeepT.of_set HBlk3.out (by simp))⟩
  | false =>
    go_enter Try.func16, Try.ntmps16
    go_wp2_with (go_at_call 28; refine (fits_calls _ _).mono ?_; rintro e w' ⟨rfl, rfl⟩)
    generalize hW : w.setCell ⟨g, 1, none⟩ (.bool (!fitsB n)) = W
    have hblk1 : W.heap[g]? = some (.cells #[v, .bool (!fitsB n)] 48 (0, 0)) := by rw [← hW]; exact blk_put HBlk.out 1 _ rfl
    have hR1 : Aside0 ((Kd.int .u8).R 5 W base tt v bs) := ⟨by rw [← hW]; exact Kd.R_set hR.out HBlk.out (by decide) 1 _⟩
    have hBW : Aside0 (Below base w W) := ⟨by rw [← hW]; exact (Below.refl _ _).setCell hg _⟩
    have hsz : w.heap.size ≤ W.heap.size := hBW.out.size
    have hkW : Aside0 (KeepT w W [48, 5]) := ⟨by rw [← hW]; exact KeepT.of_set HBlk.out (by simp)⟩
    clear hW hc0 hc1 hf0 hf1 hR HBlk
    have hc0 : W.cell? ⟨g, 0, none⟩ = some v := (blk_cell hblk1 0).trans rfl
    have hf0 := blk_frozen hblk1 0
    have HBlk1 := Aside0.mk hblk1
    have hne := Aside0.mk (Kd.R_ne hR1.out hblk1 (by decide))
    have hgW := Aside0.mk (blk_lt hblk1)
    clear hblk1
    refine start_ (n := 11) (S := fun w' => w'.cell? ⟨g, 0, none⟩ = some v ∧ w'.frozen? ⟨g, 0, none⟩ = false) (ds := [10]) #[false, false, false, false, false, false, false, false, false, false, false] (by kernel_rfl) rfl rfl ⟨hc0, hf0⟩ (fun hHeld => ?_)
    refine pure_ (i := 0) (N := some 19) (v := ?_) (a' := ?_) #[true, false, false, false, false, false, false, false, false, false, false] rfl rfl (by kernel_rfl) (fun _ _ _ h => h) (Or.inl ⟨by rfl, ?_⟩) ?_ ?_
    rotate_left
    · intro w'
      go_simp
      with_reducible rfl
    rotate_left
    · simp only [Act.put, List.setIfInBounds_toArray, List.set_cons_zero, List.set_cons_succ, i64_w, i32_w]
      rfl
    refine pure_ (i := 1) (N := some 20) (v := ?_) (a' := ?_) #[true, true, false, false, false, false, false, false, false, false, false] rfl rfl (by kernel_rfl) (fun _ _ _ h => h) (Or.inl ⟨by rfl, ?_⟩) ?_ ?_
    rotate_left
    · intro w'
      go_simp
      with_reducible rfl
    rotate_left
    · simp only [Act.put, List.setIfInBounds_toArray, List.set_cons_zero, List.set_cons_succ, i64_w, i32_w]
      rfl
    refine pure_ (i := 2) (N := some 21) (v := ?_) (a' := ?_) #[true, true, true, false, false, false, false, false, false, false, false] rfl rfl (by kernel_rfl) (fun _ _ _ h => h) (Or.inl ⟨by rfl, ?_⟩) ?_ ?_
    rotate_left
    · intro w'
      go_simp
      with_reducible rfl
    rotate_left
    · simp only [Act.put, List.setIfInBounds_toArray, List.set_cons_zero, List.set_cons_succ, i64_w, i32_w]
      rfl
    refine pure_ (i := 3) (N := some 22) (v := ?_) (a' := ?_) #[true, true, true, true, false, false, false, false, false, false, false] rfl rfl (by kernel_rfl) (fun _ _ _ h => h) (Or.inl ⟨by rfl, ?_⟩) ?_ ?_
    rotate_left
    · intro w'
      go_simp
      with_reducible rfl
    rotate_left
    · simp only [Act.put, List.setIfInBounds_toArray, List.set_cons_zero, List.set_cons_succ, i64_w, i32_w]
      rfl
    refine pure_ (i := 5) (N := some 24) (v := ?_) (a' := ?_) #[true, true, true, true, false, true, false, false, false, false, false] rfl rfl (by kernel_rfl) (fun _ _ _ h => h) (Or.inl ⟨by rfl, ?_⟩) ?_ ?_
    rotate_left
    · intro w'
      go_simp
      with_reducible rfl
    rotate_left
    · simp only [Act.put, List.setIfInBounds_toArray, List.set_cons_zero, List.set_cons_succ, i64_w, i32_w]
      rfl
    refine take_ (i := 4) (N := some 23) (v := ?_) (a' := ?_) #[true, true, true, true, true, true, false, false, false, false, false] rfl rfl (by kernel_rfl) (fun _ _ _ h => h) (Or.inl ⟨by rfl, ?_⟩) hHeld ?_ ?_
    rotate_left
    · rintro w' ⟨s0, s1⟩
      go_simp
      with_reducible rfl
    rotate_left
    · simp only [Act.put, List.setIfInBounds_toArray, List.set_cons_zero, List.set_cons_succ, i64_w, i32_w]
      rfl
    refine one_ (i := 6) (N := some 25) #[true, true, true, true, true, true, true, false, false, false, false] rfl rfl (by kernel_rfl) (by decide) (fun K hK => ?_)
    refine goes_ Try.func29 (by kernel_rfl) rfl #[.int .i64 n] (by rfl) rfl rfl (by simp only [List.map_toArray, List.map_cons, List.map_nil]; rfl) ?_
    with_reducible refine (put_calls _ _).mono ?_
    rintro e w2 ⟨v2, rfl, hR2, hB2⟩
    refine ⟨_, rfl, ?_⟩
    obtain ⟨A2, c2, rfl, hl2, hC2⟩ := Kd.R_reads hR2
    have hb2 := Aside0.mk (below_undrew hB2)
    have hC2 := Aside0.mk hC2
    refine hK.out _ _ ⟨(hb2.out.cell (p := ⟨g, 0, none⟩) hgW.out).trans hc0, (hb2.out.frozen (p := ⟨g, 0, none⟩) hgW.out).trans hf0⟩ (fun hHeld => ?_)
    clear hK K
    refine norm_ (a' := ?_) ?_ ?_
    rotate_left
    · show Act.put _ (some 25) _ = _
      simp only [Act.put, List.setIfInBounds_toArray, List.set_cons_zero, List.set_cons_succ, i64_w, i32_w]
      rfl
    refine one_ (i := 7) (N := some 26) #[true, true, true, true, true, true, true, true, false, false, false] rfl rfl (by kernel_rfl) (by decide) (fun K hK => ?_)
    refine Kd.R_append_rows_step (Kd.int .u8) (w0 := w) base (by rfl) _ _ _ _ (.int .u8 0) 1 (by rfl) Try.underlying32 info_u8 rfl (by decide) (by decide) v bs (putI n) A2 (putI n).length c2 tt ff (by rfl) (by rfl) (Kd.R_below hR1.out hb2.out) hC2.out (fun _ _ h => h) (fun _ hk => hk.elim) (fun _ _ => trivial) (hBW.out.trans (Below.mono hb2.out (by omega))) (by have := hb2.out.size; omega) (by have := putI_len n; omega) ?_
    intro v3 w3 hR3 hB3 hg3 _
    obtain ⟨A3, c3, rfl⟩ := Kd.R_slice hR3
    have hblk3 : w3.heap[g]? = some (.cells #[v, .bool (!fitsB n)] 48 (0, 0)) := blk_grown (blk_below HBlk1.out hb2.out) hg3 hne.out
    have hc3 : w3.cell? ⟨g, 0, none⟩ = some v := (blk_cell hblk3 0).trans rfl
    have hf3 := blk_frozen hblk3 0
    refine hK.out _ _ ⟨hc3, hf3⟩ (fun hHeld => ?_)
    clear hK K
    refine norm_ (a' := ?_) ?_ ?_
    rotate_left
    · show Act.put _ (some 26) _ = _
      simp only [Act.put, List.setIfInBounds_toArray, List.set_cons_zero, List.set_cons_succ, i64_w, i32_w]
      rfl
    refine pure_ (i := 8) (N := some 27) (v := ?_) (a' := ?_) #[true, true, true, true, true, true, true, true, true, false, false] rfl rfl (by kernel_rfl) (fun _ _ _ h => h) (Or.inl ⟨by rfl, ?_⟩) ?_ ?_
    rotate_left
    · intro w'
      go_simp
      with_reducible rfl
    rotate_left
    · simp only [Act.put, List.setIfInBounds_toArray, List.set_cons_zero, List.set_cons_succ, i64_w, i32_w]
      rfl
    refine pure_ (i := 9) (N := some 28) (v := ?_) (a' := ?_) #[true, true, true, true, true, true, true, true, true, true, false] rfl rfl (by kernel_rfl) (fun _ _ _ h => h) (Or.inl ⟨by rfl, ?_⟩) ?_ ?_
    rotate_left
    · intro w'
      go_simp
      with_reducible rfl
    rotate_left
    · simp only [Act.put, List.setIfInBounds_toArray, List.set_cons_zero, List.set_cons_succ, i64_w, i32_w]
      rfl
    refine last_ (i := 10) (N := none) #[true, true, true, true, true, true, true, true, true, true, true] rfl rfl (by kernel_rfl) (by decide) (fun K hK => ?_)
    refine skip_ (w1 := ?_) (by rfl) rfl ?_ ?_
    rotate_left
    · go_simp
      rfl
    refine hK.out _ _ ?_
    clear hK K
    refine done_ (by kernel_rfl) ?_

    have HBlk3 := Aside0.mk hblk3
    have hR3 := Aside0.mk hR3
    have hB3 := Aside0.mk hB3
    have hk3 : Aside0 (KeepT w w3 [48, 5]) := ⟨(hkW.out.trans (KeepT.of_below hb2.out)).trans (KeepT.of_row (Kd.R_below hR1.out hb2.out) hg3 (by simp))⟩
    clear hblk3 hg3
    go_wp2
    go_ret
    refine ⟨rfl, ⟨hg, _, blk_put HBlk3.out 0 _ (by simp), Kd.R_set hR3.out HBlk3.out (by decide) 0 _⟩, hB3.out.setCell hg _, hk3.out.trans (KeepT.of_set HBlk3.out (by simp))⟩
end Go.Proofs.Ytjigjchcmcmbhaa
