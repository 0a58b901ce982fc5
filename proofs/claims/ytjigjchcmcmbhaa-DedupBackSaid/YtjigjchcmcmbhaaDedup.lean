import Derived.Test.YtjigjchcmcmbhaaReader
import Derived.Test.YtjigjchcmcmbhaaKeys
import Derived.WalkSpells
namespace Go.Proofs.Ytjigjchcmcmbhaa
open Go Go.RowKit Go.MapKept Go.Proofs.YtjigjchcmcmbhaaW.PrintWords Go.Proofs.YtjigjchcmcmbhaaW.PrintLast
set_option linter.unusedSimpArgs false
set_option linter.unusedVariables false

/-! ### dedup -/
theorem round_calls (k n : Int) (w : World) (hn : 0 < n) (hn2 : n ≤ 1000000) : Calls Try.prog 6 #[.int .i64 k, .int .i64 n] w fun e w' => e = .returned (.int .i64 (k % n)) ∧ w = w' := by
  have hn0 : (n == 0) = false := by simp; omega
  have hn1 : Aside0 (n ≠ 0) := ⟨by omega⟩
  by_cases hk : 0 ≤ k
  · have h1 : 0 ≤ k % n := Int.emod_nonneg _ (by omega)
    go_enter Try.func6, Try.ntmps6
    go_wp2
    go_ret
    exact ⟨rfl, rfl⟩
  · have h1 : k.tmod n ≤ 0 := by
      have := Int.tmod_nonneg n (a := -k) (by omega)
      rw [Int.neg_tmod] at this
      omega
    have h2 : -n < k.tmod n := by
      have := Int.tmod_lt_of_pos (-k) hn
      rw [Int.neg_tmod] at this
      omega
    have h3 : k % n = if k.tmod n < 0 then k.tmod n + n else k.tmod n := by
      have h4 : k.tmod n = k - n * k.tdiv n := Int.tmod_def k n
      split
      · rename_i hlt
        have h5 : k = (k.tmod n + n) + n * (k.tdiv n - 1) := by rw [h4, Int.mul_sub]; omega
        conv => lhs; rw [h5]
        rw [Int.add_mul_emod_self_left, Int.emod_eq_of_lt (by omega) (by omega)]
      · rename_i hlt
        have h5 : k = k.tmod n + n * k.tdiv n := by rw [h4]; omega
        conv => lhs; rw [h5]
        rw [Int.add_mul_emod_self_left, Int.emod_eq_of_lt (by omega) (by omega)]
    have H3 := Aside0.mk h3
    clear h3
    by_cases hlt : k.tmod n < 0
    · have H4 : Aside0 (k % n = k.tmod n + n) := ⟨by rw [H3.out, if_pos hlt]⟩
      go_enter Try.func6, Try.ntmps6
      go_wp2
      go_ret
      exact ⟨by rw [H4.out]; rfl, rfl⟩
    · have H4 : Aside0 (k % n = k.tmod n) := ⟨by rw [H3.out, if_neg hlt]⟩
      go_enter Try.func6, Try.ntmps6
      go_wp2
      go_ret
      exact ⟨by rw [H4.out]; rfl, rfl⟩
def mayB (n : Int) : Bool := decide (1 ≤ n) && decide (n ≤ 20)
theorem may_calls (n : Int) (w : World) : Calls Try.prog 14 #[.int .i64 n] w fun e w' => e = .returned (.bool (mayB n)) ∧ w = w' := by
  by_cases h : 1 ≤ n
  · go_enter Try.func14, Try.ntmps14
    go_wp2
    go_ret
    exact ⟨by simp [mayB]; omega, rfl⟩
  · go_enter Try.func14, Try.ntmps14
    go_wp2
    go_ret
    exact ⟨by simp [mayB]; omega, rfl⟩
structure Ans where
  seq : Int
  done : Bool
  rev : Int
  code : Int
def encA (a : Ans) : Value := .agg #[.int .i64 a.seq, .bool a.done, .int .i64 a.rev, .int .i64 a.code]
def zA : Ans := ⟨0, false, 0, 0⟩
def soundB (a : Ans) : Bool := if a.done then decide (0 ≤ a.rev) && (a.code == 0) else decide (0 ≤ a.code) && (a.rev == 0)
theorem sound_calls (a : Ans) (w : World) : Calls Try.prog 15 #[.agg #[.int .i64 a.seq, .bool a.done, .int .i64 a.rev, .int .i64 a.code]] w fun e w' => e = .returned (.bool (soundB a)) ∧ Below w.heap.size w w' := by
  obtain ⟨s, d, r, c⟩ := a
  have hb := fun x => below_alloc (Below.refl w.heap.size w) x
  cases d with
  | true =>
    by_cases h : 0 ≤ r
    · go_enter Try.func15, Try.ntmps15
      go_wp2
      go_ret
      exact ⟨by simp [soundB, h], hb _⟩
    · go_enter Try.func15, Try.ntmps15
      go_wp2
      go_ret
      exact ⟨by simp [soundB]; omega, hb _⟩
  | false =>
    by_cases h : 0 ≤ c
    · go_enter Try.func15, Try.ntmps15
      go_wp2
      go_ret
      exact ⟨by simp [soundB, h], hb _⟩
    · go_enter Try.func15, Try.ntmps15
      go_wp2
      go_ret
      exact ⟨by simp [soundB]; omega, hb _⟩
def lastA (c : Int) (m : List (Int × Ans)) : Ans := (mget c m).getD zA
def TbAt (w : World) (g b : Nat) (m : List (Int × Ans)) : Prop :=
  w.heap[g]? = some (.cells #[.map (some b)] 43 (0, 0)) ∧ IMap encA w b m
theorem look (w : World) (b : Nat) (m : List (Int × Ans)) (h : IMap encA w b m) (c : Int) :
    (Instr.lookup 41 (.map (some b)) (.int .i64 c) false).run Try.prog w = .ok (.agg #[.int .i64 (lastA c m).seq, .bool (lastA c m).done, .int .i64 (lastA c m).rev, .int .i64 (lastA c m).code]) w := by
  rw [run_look h Try.underlying41 Try.underlying3 (Try.zeroValue29 w) c]
  unfold lastA
  cases mget c m <;> rfl
theorem field_seq (s r c : Int) (d : Bool) (W : World) : (Instr.field 29 (.agg #[.int .i64 s, .bool d, .int .i64 r, .int .i64 c]) 0).run Try.prog W = .ok (.int .i64 s) W := by
  simp [Instr.field, run_underlying Try.underlying29, Result.andThen, asAgg, part, Try.isAgg3]
theorem new_calls (w : World) : Calls Try.prog 5 #[] w fun e w' => ∃ g b, e = .returned (.pointer (some ⟨g, 0, none⟩)) ∧ w.heap.size ≤ g ∧ w.heap.size ≤ b ∧ TbAt w' g b [] ∧ Below w.heap.size w w' := by
  have hmm := @run_makeMap Try.prog
  go_enter Try.func5, Try.ntmps5
  go_wp2
  go_ret
  exact ⟨w.heap.size + 1, w.heap.size, rfl, by omega, by omega, ⟨by have := blk_new (w.alloc (.map #[] 0)) (.cells #[.map (some w.heap.size)] 43); simpa using this, (IMap.made encA w).below (below_alloc (Below.refl _ _) _)⟩, below_alloc (below_alloc (Below.refl _ _) _) _⟩
set_option maxRecDepth 100000 in
theorem last_calls (w : World) (g b : Nat) (m : List (Int × Ans)) (c : Int) (h : TbAt w g b m) : Calls Try.prog 7 #[.pointer (some ⟨g, 0, none⟩), .int .i64 c] w fun e w' => e = .returned (.int .i64 (lastA c m).seq) ∧ w = w' := by
  have hc0 : w.cell? ⟨g, 0, none⟩ = some (.map (some b)) := (blk_cell h.1 0).trans rfl
  have hl := look w b m h.2 c
  clear h
  have hfs := field_seq
  go_enter Try.func7, Try.ntmps7
  go_wp2
  go_ret
  exact ⟨rfl, rfl⟩

/-- What Tell answers. -/
def tellE (m : List (Int × Ans)) (c : Int) (a : Ans) : Int := if mayB c then (if a.seq = (lastA c m).seq + 1 then (if soundB a then 0 else 1) else 16) else 1
theorem tell_bad (w : World) (g b : Nat) (m : List (Int × Ans)) (c : Int) (a : Ans) (h : TbAt w g b m) (hm : mayB c = false) :
    Calls Try.prog 8 #[.pointer (some ⟨g, 0, none⟩), .int .i64 c, .agg #[.int .i64 a.seq, .bool a.done, .int .i64 a.rev, .int .i64 a.code]] w fun e w' => e = .returned (.int .i64 1) ∧ Below w.heap.size w w' := by
  have hb := fun x => below_alloc (Below.refl w.heap.size w) x
  go_enter Try.func8, Try.ntmps8
  go_wp2_with (go_at_call 14; refine (may_calls _ _).mono ?_; rintro e w' ⟨rfl, rfl⟩)
  go_ret
  exact ⟨rfl, hb _⟩
theorem tb_ne {w : World} {g b t : Nat} {cs : Array Value} {m : List (Int × Ans)} (h : w.heap[g]? = some (.cells cs t (0, 0))) (hI : IMap encA w b m) : g ≠ b := by
  rintro rfl
  obtain ⟨es, clock, h2, _⟩ := hI
  rw [h] at h2
  cases h2
def tellR (w : World) (g b : Nat) (m : List (Int × Ans)) (c : Int) (a : Ans) (w' : World) : Prop := TbAt w' g b (mset c a m) ∧ KeepO w w' b
set_option maxRecDepth 100000 in
theorem tell_ok (w : World) (g b : Nat) (m : List (Int × Ans)) (c : Int) (a : Ans) (h : TbAt w g b m) (hm : mayB c = true) (hs : soundB a = true) (hq : a.seq = (lastA c m).seq + 1) (hsq : 0 ≤ (lastA c m).seq ∧ (lastA c m).seq ≤ 1000000) (hwf : (Lit.int .i64 c).wf = true) (hl : m.length < 1000) :
    Calls Try.prog 8 #[.pointer (some ⟨g, 0, none⟩), .int .i64 c, .agg #[.int .i64 a.seq, .bool a.done, .int .i64 a.rev, .int .i64 a.code]] w fun e w' => e = .returned (.int .i64 0) ∧ tellR w g b m c a w' := by
  obtain ⟨hblk, hI⟩ := h
  obtain ⟨hs0, hs1⟩ := hsq
  have hgl := blk_lt hblk
  have hbl := hI.lt
  have hu := Try.underlying29
  have hlk := fun W h => look W b m h c
  have HL := Aside0.mk hlk
  have HS := Aside0.mk hs
  obtain ⟨sq, dn, rv, cd⟩ := a
  simp only at hq
  generalize hla : (lastA c m).seq = sl at hs0 hs1 hq
  subst hq
  have HI := Aside0.mk hI
  have HB := Aside0.mk hblk
  obtain ⟨W, hW⟩ : ∃ W, W = w.alloc (.cells #[.int .i64 (sl + 1), .bool dn, .int .i64 rv, .int .i64 cd] 29) := ⟨_, rfl⟩
  have hbW : Aside0 (Below w.heap.size w W) := ⟨by rw [hW]; exact below_alloc (Below.refl _ _) _⟩
  have hnW : Aside0 (W.heap[w.heap.size]? = some (.cells #[.int .i64 (sl + 1), .bool dn, .int .i64 rv, .int .i64 cd] 29 (0, 0))) := ⟨by rw [hW]; exact blk_new _ _⟩
  have HIW := Aside0.mk (HI.out.below hbW.out)
  have hl1 := HL.out W.drew (HIW.out.move rfl)
  rw [hla] at hl1
  have hgW : W.heap[g]? = some (.cells #[.map (some b)] 43 (0, 0)) := blk_below hblk hbW.out
  have hc0 : W.cell? ⟨g, 0, none⟩ = some (.map (some b)) := (blk_cell hgW 0).trans rfl
  have hc1 : W.cell? ⟨w.heap.size, 0, none⟩ = some (.int .i64 (sl + 1)) := (blk_cell hnW.out 0).trans rfl
  have hc2 : W.cell? ⟨w.heap.size, 1, none⟩ = some (.bool dn) := (blk_cell hnW.out 1).trans rfl
  have hc3 : W.cell? ⟨w.heap.size, 2, none⟩ = some (.int .i64 rv) := (blk_cell hnW.out 2).trans rfl
  have hc4 : W.cell? ⟨w.heap.size, 3, none⟩ = some (.int .i64 cd) := (blk_cell hnW.out 3).trans rfl
  have HgW := Aside0.mk hgW
  have hfs := field_seq
  clear hlk hblk hI hla hgW hs
  go_enter Try.func8, Try.ntmps8
  go_wp2_with (go_at_call 14; refine (may_calls _ _).mono ?_; rintro e w' ⟨rfl, rfl⟩)
  rw [← hW]
  clear hW
  refine start_ (n := 12) (S := fun w' => w'.cell? ⟨w.heap.size, 0, none⟩ = some (.int .i64 (sl + 1)) ∧ w'.cell? ⟨g, 0, none⟩ = some (.map (some b)) ∧ (Instr.lookup 41 (.map (some b)) (.int .i64 c) false).run Try.prog w' = .ok (.agg #[.int .i64 sl, .bool (lastA c m).done, .int .i64 (lastA c m).rev, .int .i64 (lastA c m).code]) w') (ds := []) #[false, false, false, false, false, false, false, false, false, false, false, false] (by kernel_rfl) rfl rfl ⟨hc1, hc0, hl1⟩ (fun hHeld => ?_)
  refine pure_ (i := 0) (N := some 16) (v := ?_) (a' := ?_) #[true, false, false, false, false, false, false, false, false, false, false, false] rfl rfl (by kernel_rfl) (fun _ _ _ h => h) (Or.inl ⟨by rfl, ?_⟩) ?_ ?_
  rotate_left
  · intro w'
    go_simp
    with_reducible rfl
  rotate_left
  · simp only [Act.put, List.setIfInBounds_toArray, List.set_cons_zero, List.set_cons_succ, i64_w, i32_w]
    rfl
  refine pure_ (i := 2) (N := some 18) (v := ?_) (a' := ?_) #[true, false, true, false, false, false, false, false, false, false, false, false] rfl rfl (by kernel_rfl) (fun _ _ _ h => h) (Or.inl ⟨by rfl, ?_⟩) ?_ ?_
  rotate_left
  · intro w'
    go_simp
    with_reducible rfl
  rotate_left
  · simp only [Act.put, List.setIfInBounds_toArray, List.set_cons_zero, List.set_cons_succ, i64_w, i32_w]
    rfl
  refine pure_ (i := 3) (N := some 19) (v := ?_) (a' := ?_) #[true, false, true, true, false, false, false, false, false, false, false, false] rfl rfl (by kernel_rfl) (fun _ _ _ h => h) (Or.inl ⟨by rfl, ?_⟩) ?_ ?_
  rotate_left
  · intro w'
    go_simp
    with_reducible rfl
  rotate_left
  · simp only [Act.put, List.setIfInBounds_toArray, List.set_cons_zero, List.set_cons_succ, i64_w, i32_w]
    rfl
  refine pure_ (i := 4) (N := some 20) (v := ?_) (a' := ?_) #[true, false, true, true, true, false, false, false, false, false, false, false] rfl rfl (by kernel_rfl) (fun _ _ _ h => h) (Or.inl ⟨by rfl, ?_⟩) ?_ ?_
  rotate_left
  · intro w'
    go_simp
    with_reducible rfl
  rotate_left
  · simp only [Act.put, List.setIfInBounds_toArray, List.set_cons_zero, List.set_cons_succ, i64_w, i32_w]
    rfl
  refine pure_ (i := 6) (N := some 22) (v := ?_) (a' := ?_) #[true, false, true, true, true, false, true, false, false, false, false, false] rfl rfl (by kernel_rfl) (fun _ _ _ h => h) (Or.inl ⟨by rfl, ?_⟩) ?_ ?_
  rotate_left
  · intro w'
    go_simp
    with_reducible rfl
  rotate_left
  · simp only [Act.put, List.setIfInBounds_toArray, List.set_cons_zero, List.set_cons_succ, i64_w, i32_w]
    rfl
  refine take_ (i := 1) (N := some 17) (v := ?_) (a' := ?_) #[true, true, true, true, true, false, true, false, false, false, false, false] rfl rfl (by kernel_rfl) (fun _ _ _ h => h) (Or.inl ⟨by rfl, ?_⟩) hHeld ?_ ?_
  rotate_left
  · rintro w' ⟨s0, s1, s2⟩
    go_simp
    with_reducible rfl
  rotate_left
  · simp only [Act.put, List.setIfInBounds_toArray, List.set_cons_zero, List.set_cons_succ, i64_w, i32_w]
    rfl
  refine take_ (i := 5) (N := some 21) (v := ?_) (a' := ?_) #[true, true, true, true, true, true, true, false, false, false, false, false] rfl rfl (by kernel_rfl) (fun _ _ _ h => h) (Or.inl ⟨by rfl, ?_⟩) hHeld ?_ ?_
  rotate_left
  · rintro w' ⟨s0, s1, s2⟩
    go_simp
    with_reducible rfl
  rotate_left
  · simp only [Act.put, List.setIfInBounds_toArray, List.set_cons_zero, List.set_cons_succ, i64_w, i32_w]
    rfl
  refine take_ (i := 7) (N := some 23) (v := ?_) (a' := ?_) #[true, true, true, true, true, true, true, true, false, false, false, false] rfl rfl (by kernel_rfl) (fun _ _ _ h => h) (Or.inl ⟨by rfl, ?_⟩) hHeld ?_ ?_
  rotate_left
  · rintro w' ⟨s0, s1, s2⟩
    go_simp
    with_reducible rfl
  rotate_left
  · simp only [Act.put, List.setIfInBounds_toArray, List.set_cons_zero, List.set_cons_succ, i64_w, i32_w]
    rfl
  refine pure_ (i := 8) (N := some 24) (v := ?_) (a' := ?_) #[true, true, true, true, true, true, true, true, true, false, false, false] rfl rfl (by kernel_rfl) (fun _ _ _ h => h) (Or.inl ⟨by rfl, ?_⟩) ?_ ?_
  rotate_left
  · intro w'
    go_simp
    with_reducible rfl
  rotate_left
  · simp only [Act.put, List.setIfInBounds_toArray, List.set_cons_zero, List.set_cons_succ, i64_w, i32_w]
    rfl
  refine pure_ (i := 9) (N := some 25) (v := ?_) (a' := ?_) #[true, true, true, true, true, true, true, true, true, true, false, false] rfl rfl (by kernel_rfl) (fun _ _ _ h => h) (Or.inl ⟨by rfl, ?_⟩) ?_ ?_
  rotate_left
  · intro w'
    go_simp
    with_reducible rfl
  rotate_left
  · simp only [Act.put, List.setIfInBounds_toArray, List.set_cons_zero, List.set_cons_succ, i64_w, i32_w]
    rfl
  refine pure_ (i := 10) (N := some 26) (v := ?_) (a' := ?_) #[true, true, true, true, true, true, true, true, true, true, true, false] rfl rfl (by kernel_rfl) (fun _ _ _ h => h) (Or.inl ⟨by rfl, ?_⟩) ?_ ?_
  rotate_left
  · intro w'
    go_simp
    with_reducible rfl
  rotate_left
  · simp only [Act.put, List.setIfInBounds_toArray, List.set_cons_zero, List.set_cons_succ, i64_w, i32_w]
    rfl
  refine pure_ (i := 11) (N := some 15) (v := ?_) (a' := ?_) #[true, true, true, true, true, true, true, true, true, true, true, true] rfl rfl (by kernel_rfl) (fun _ _ _ h => h) (Or.inl ⟨by rfl, ?_⟩) ?_ ?_
  rotate_left
  · intro w'
    go_simp
    with_reducible rfl
  rotate_left
  · simp only [Act.put, List.setIfInBounds_toArray, List.set_cons_zero, List.set_cons_succ, i64_w, i32_w]
    rfl
  refine done_ (by kernel_rfl) ?_

  clear hl1 hc0 hc1
  simp only [Exit.then]
  have hww : (sl + 1 != wrap64 (sl + 1)) = false := by
    rw [show wrap64 (sl + 1) = sl + 1 by unfold wrap64; omega]
    simp
  have hmn : ∀ W : World, (binOp .eql 41 (.map (some b)) (.map none)).run Try.prog W = .ok (.bool false) W := fun W => run_eql_map_nil W _ _ _ (some b) Try.underlying41
  go_wp2_with (go_at_call 15; refine (sound_calls ⟨sl + 1, dn, rv, cd⟩ _).mono ?_; rw [HS.out]; rintro e W2 ⟨rfl, hB2⟩; have hB2 := Aside0.mk (below_undrew hB2); have hq0 : W2.cell? ⟨g, 0, none⟩ = some (.map (some b)) := (blk_cell (blk_below HgW.out hB2.out) 0).trans rfl)
  have hn2 : W2.heap[w.heap.size]? = some (.cells #[.int .i64 (sl + 1), .bool dn, .int .i64 rv, .int .i64 cd] 29 (0, 0)) := blk_below hnW.out hB2.out
  have hd1 : W2.cell? ⟨w.heap.size, 0, none⟩ = some (.int .i64 (sl + 1)) := (blk_cell hn2 0).trans rfl
  have hd2 : W2.cell? ⟨w.heap.size, 1, none⟩ = some (.bool dn) := (blk_cell hn2 1).trans rfl
  have hd3 : W2.cell? ⟨w.heap.size, 2, none⟩ = some (.int .i64 rv) := (blk_cell hn2 2).trans rfl
  have hd4 : W2.cell? ⟨w.heap.size, 3, none⟩ = some (.int .i64 cd) := (blk_cell hn2 3).trans rfl
  obtain ⟨W3, hrun3, hI3, hg3, hsz3⟩ := run_put (P := Try.prog) (w := W2.drew) ((HIW.out.below hB2.out).move rfl) Try.underlying41 Try.underlying3 c hwf ⟨sl + 1, dn, rv, cd⟩ (by omega)
  have HI3 := Aside0.mk hI3
  have HG3 := Aside0.mk hg3
  have hrun3' : (Instr.mapUpdate 41 (.map (some b)) (.int .i64 c) (.agg #[.int .i64 (sl + 1), .bool dn, .int .i64 rv, .int .i64 cd])).run Try.prog W2.drew = .ok () W3 := hrun3
  clear hrun3 hI3 hg3 hsz3 hn2 hww hmn
  refine start_ (n := 7) (S := fun w' => w'.cell? ⟨g, 0, none⟩ = some (.map (some b)) ∧ w'.cell? ⟨w.heap.size, 0, none⟩ = some (.int .i64 (sl + 1)) ∧ w'.cell? ⟨w.heap.size, 1, none⟩ = some (.bool dn) ∧ w'.cell? ⟨w.heap.size, 2, none⟩ = some (.int .i64 rv) ∧ w'.cell? ⟨w.heap.size, 3, none⟩ = some (.int .i64 cd)) (ds := [6]) #[false, false, false, false, false, false, false] (by kernel_rfl) rfl rfl ⟨hq0, hd1, hd2, hd3, hd4⟩ (fun hHeld => ?_)
  refine pure_ (i := 0) (N := some 40) (v := ?_) (a' := ?_) #[true, false, false, false, false, false, false] rfl rfl (by kernel_rfl) (fun _ _ _ h => h) (Or.inl ⟨by rfl, ?_⟩) ?_ ?_
  rotate_left
  · intro w'
    go_simp
    with_reducible rfl
  rotate_left
  · simp only [Act.put, List.setIfInBounds_toArray, List.set_cons_zero, List.set_cons_succ, i64_w, i32_w]
    rfl
  refine pure_ (i := 1) (N := some 41) (v := ?_) (a' := ?_) #[true, true, false, false, false, false, false] rfl rfl (by kernel_rfl) (fun _ _ _ h => h) (Or.inl ⟨by rfl, ?_⟩) ?_ ?_
  rotate_left
  · intro w'
    go_simp
    with_reducible rfl
  rotate_left
  · simp only [Act.put, List.setIfInBounds_toArray, List.set_cons_zero, List.set_cons_succ, i64_w, i32_w]
    rfl
  refine pure_ (i := 2) (N := some 42) (v := ?_) (a' := ?_) #[true, true, true, false, false, false, false] rfl rfl (by kernel_rfl) (fun _ _ _ h => h) (Or.inl ⟨by rfl, ?_⟩) ?_ ?_
  rotate_left
  · intro w'
    go_simp
    with_reducible rfl
  rotate_left
  · simp only [Act.put, List.setIfInBounds_toArray, List.set_cons_zero, List.set_cons_succ, i64_w, i32_w]
    rfl
  refine pure_ (i := 4) (N := some 44) (v := ?_) (a' := ?_) #[true, true, true, false, true, false, false] rfl rfl (by kernel_rfl) (fun _ _ _ h => h) (Or.inl ⟨by rfl, ?_⟩) ?_ ?_
  rotate_left
  · intro w'
    go_simp
    with_reducible rfl
  rotate_left
  · simp only [Act.put, List.setIfInBounds_toArray, List.set_cons_zero, List.set_cons_succ, i64_w, i32_w]
    rfl
  refine take_ (i := 3) (N := some 43) (v := ?_) (a' := ?_) #[true, true, true, true, true, false, false] rfl rfl (by kernel_rfl) (fun _ _ _ h => h) (Or.inl ⟨by rfl, ?_⟩) hHeld ?_ ?_
  rotate_left
  · rintro w' ⟨s0, s1, s2, s3, s4⟩
    go_simp
    with_reducible rfl
  rotate_left
  · simp only [Act.put, List.setIfInBounds_toArray, List.set_cons_zero, List.set_cons_succ, i64_w, i32_w]
    rfl
  refine take_ (i := 5) (N := some 45) (v := ?_) (a' := ?_) #[true, true, true, true, true, true, false] rfl rfl (by kernel_rfl) (fun _ _ _ h => h) (Or.inl ⟨by rfl, ?_⟩) hHeld ?_ ?_
  rotate_left
  · rintro w' ⟨s0, s1, s2, s3, s4⟩
    go_simp
    with_reducible rfl
  rotate_left
  · simp only [Act.put, List.setIfInBounds_toArray, List.set_cons_zero, List.set_cons_succ, i64_w, i32_w]
    rfl
  refine last_ (i := 6) (N := none) #[true, true, true, true, true, true, true] rfl rfl (by kernel_rfl) (by decide) (fun K hK => ?_)
  refine skip_ (w1 := ?_) (by rfl) rfl ?_ ?_
  rotate_left
  · go_simp
    rfl
  refine hK.out _ _ ?_
  clear hK K
  refine done_ (by kernel_rfl) ?_

  simp only [Exit.then]
  go_wp2
  go_ret
  have hkb : KeepBut w W3 b none := KeepBut.trans (KeepBut.of_below (below_then hbW.out hbW.out.size hB2.out) b none) ⟨HG3.out.size, fun i hi hib _ => HG3.out.block i hi (fun e => hib (by injection e))⟩ (.inl rfl)
  exact ⟨rfl, ⟨(hkb.2 g hgl (fun e => tb_ne HB.out HI.out e) (by simp)).trans HB.out, HI3.out⟩, hkb, ((below_then hbW.out hbW.out.size hB2.out).mono (Nat.le_of_lt hbl)).trans ⟨HG3.out.os, HG3.out.tape, HG3.out.output, HG3.out.size, fun i hi => HG3.out.block i (Nat.lt_of_lt_of_le hi (Nat.le_trans (Nat.le_of_lt hbl) (below_then hbW.out hbW.out.size hB2.out).size)) (fun e => by injection e with e; omega)⟩⟩
end Go.Proofs.Ytjigjchcmcmbhaa
