import Derived.Test.YtjigjchcmcmbhaaDedupC
namespace Go.Proofs.Ytjigjchcmcmbhaa
open Go Go.RowKit Go.MapKept Go.Proofs.YtjigjchcmcmbhaaW.PrintWords Go.Proofs.YtjigjchcmcmbhaaW.PrintLast
set_option linter.unusedSimpArgs false
set_option linter.unusedVariables false

set_option maxRecDepth 100000 in
theorem same_calls (w : World) (ga ba gb bb : Nat) (m1 m2 : List (Int × Ans)) (h1 : TbAt w ga ba m1) (h2 : TbAt w gb bb m2) :
    Calls Try.prog 11 #[.pointer (some ⟨ga, 0, none⟩), .pointer (some ⟨gb, 0, none⟩)] w fun e w' => e = .returned (.bool (eqM m1 m2)) ∧ Below w.heap.size w w' := by
  have hc1 : w.cell? ⟨ga, 0, none⟩ = some (.map (some ba)) := (blk_cell h1.1 0).trans rfl
  have hc2 : w.cell? ⟨gb, 0, none⟩ = some (.map (some bb)) := (blk_cell h2.1 0).trans rfl
  have H1 := Aside0.mk h1.2
  have H2 := Aside0.mk h2.2
  clear h1 h2
  go_enter Try.func11, Try.ntmps11
  go_wp2
  refine start_ (n := 10) (S := fun w' => w'.cell? ⟨ga, 0, none⟩ = some (.map (some ba)) ∧ w'.cell? ⟨gb, 0, none⟩ = some (.map (some bb))) (ds := []) #[false, false, false, false, false, false, false, false, false, false] (by kernel_rfl) rfl rfl ⟨hc1, hc2⟩ (fun hHeld => ?_)
  refine pure_ (i := 0) (N := some 14) (v := ?_) (a' := ?_) #[true, false, false, false, false, false, false, false, false, false] rfl rfl (by kernel_rfl) (fun _ _ _ h => h) (Or.inl ⟨by rfl, ?_⟩) ?_ ?_
  rotate_left
  · intro w'
    go_simp
    with_reducible rfl
  rotate_left
  · simp only [Act.put, List.setIfInBounds_toArray, List.set_cons_zero, List.set_cons_succ, i64_w, i32_w]
    rfl
  refine pure_ (i := 1) (N := some 15) (v := ?_) (a' := ?_) #[true, true, false, false, false, false, false, false, false, false] rfl rfl (by kernel_rfl) (fun _ _ _ h => h) (Or.inl ⟨by rfl, ?_⟩) ?_ ?_
  rotate_left
  · intro w'
    go_simp
    with_reducible rfl
  rotate_left
  · simp only [Act.put, List.setIfInBounds_toArray, List.set_cons_zero, List.set_cons_succ, i64_w, i32_w]
    rfl
  refine pure_ (i := 2) (N := some 16) (v := ?_) (a' := ?_) #[true, true, true, false, false, false, false, false, false, false] rfl rfl (by kernel_rfl) (fun _ _ _ h => h) (Or.inl ⟨by rfl, ?_⟩) ?_ ?_
  rotate_left
  · intro w'
    go_simp
    with_reducible rfl
  rotate_left
  · simp only [Act.put, List.setIfInBounds_toArray, List.set_cons_zero, List.set_cons_succ, i64_w, i32_w]
    rfl
  refine pure_ (i := 4) (N := some 18) (v := ?_) (a' := ?_) #[true, true, true, false, true, false, false, false, false, false] rfl rfl (by kernel_rfl) (fun _ _ _ h => h) (Or.inl ⟨by rfl, ?_⟩) ?_ ?_
  rotate_left
  · intro w'
    go_simp
    with_reducible rfl
  rotate_left
  · simp only [Act.put, List.setIfInBounds_toArray, List.set_cons_zero, List.set_cons_succ, i64_w, i32_w]
    rfl
  refine pure_ (i := 5) (N := some 19) (v := ?_) (a' := ?_) #[true, true, true, false, true, true, false, false, false, false] rfl rfl (by kernel_rfl) (fun _ _ _ h => h) (Or.inl ⟨by rfl, ?_⟩) ?_ ?_
  rotate_left
  · intro w'
    go_simp
    with_reducible rfl
  rotate_left
  · simp only [Act.put, List.setIfInBounds_toArray, List.set_cons_zero, List.set_cons_succ, i64_w, i32_w]
    rfl
  refine pure_ (i := 6) (N := some 20) (v := ?_) (a' := ?_) #[true, true, true, false, true, true, true, false, false, false] rfl rfl (by kernel_rfl) (fun _ _ _ h => h) (Or.inl ⟨by rfl, ?_⟩) ?_ ?_
  rotate_left
  · intro w'
    go_simp
    with_reducible rfl
  rotate_left
  · simp only [Act.put, List.setIfInBounds_toArray, List.set_cons_zero, List.set_cons_succ, i64_w, i32_w]
    rfl
  refine take_ (i := 3) (N := some 17) (v := ?_) (a' := ?_) #[true, true, true, true, true, true, true, false, false, false] rfl rfl (by kernel_rfl) (fun _ _ _ h => h) (Or.inl ⟨by rfl, ?_⟩) hHeld ?_ ?_
  rotate_left
  · rintro w' ⟨s0, s1⟩
    go_simp
    with_reducible rfl
  rotate_left
  · simp only [Act.put, List.setIfInBounds_toArray, List.set_cons_zero, List.set_cons_succ, i64_w, i32_w]
    rfl
  refine take_ (i := 7) (N := some 21) (v := ?_) (a' := ?_) #[true, true, true, true, true, true, true, true, false, false] rfl rfl (by kernel_rfl) (fun _ _ _ h => h) (Or.inl ⟨by rfl, ?_⟩) hHeld ?_ ?_
  rotate_left
  · rintro w' ⟨s0, s1⟩
    go_simp
    with_reducible rfl
  rotate_left
  · simp only [Act.put, List.setIfInBounds_toArray, List.set_cons_zero, List.set_cons_succ, i64_w, i32_w]
    rfl
  refine one_ (i := 8) (N := some 22) #[true, true, true, true, true, true, true, true, true, false] rfl rfl (by kernel_rfl) (by decide) (fun K hK => ?_)
  refine goes_ Try.func25 (by kernel_rfl) rfl #[.map (some ba), .map (some bb)] (by rfl) rfl rfl (by simp only [List.map_toArray, List.map_cons, List.map_nil]; rfl) ?_
  with_reducible refine (mequal_calls w.drew ba bb m1 m2 (H1.out.move rfl) (H2.out.move rfl)).mono ?_
  rintro e w2 ⟨rfl, hb⟩
  refine ⟨_, rfl, ?_⟩
  have hb2 := Aside0.mk (below_undrew hb)
  refine hK.out _ _ ⟨pw_cell_below hb2.out hc1, pw_cell_below hb2.out hc2⟩ (fun hHeld => ?_)
  clear hK K
  refine norm_ (a' := ?_) ?_ ?_
  rotate_left
  · show Act.put _ (some 22) _ = _
    simp only [Act.put, List.setIfInBounds_toArray, List.set_cons_zero, List.set_cons_succ, i64_w, i32_w]
    rfl
  refine pure_ (i := 9) (N := some 4) (v := ?_) (a' := ?_) #[true, true, true, true, true, true, true, true, true, true] rfl rfl (by kernel_rfl) (fun _ _ _ h => h) (Or.inl ⟨by rfl, ?_⟩) ?_ ?_
  rotate_left
  · intro w'
    go_simp
    with_reducible rfl
  rotate_left
  · simp only [Act.put, List.setIfInBounds_toArray, List.set_cons_zero, List.set_cons_succ, i64_w, i32_w]
    rfl
  refine done_ (by kernel_rfl) ?_

  (try simp only [Exit.then])
  go_wp2
  go_ret
  exact ⟨rfl, hb2.out⟩
theorem bytesOf_eq (xs ys : List Int) (hx : ∀ x ∈ xs, 0 ≤ x ∧ x ≤ 255) (hy : ∀ x ∈ ys, 0 ≤ x ∧ x ≤ 255) : (Lib.bytesOf xs == Lib.bytesOf ys) = (xs == ys) := by
  rw [Bool.eq_iff_iff, beq_iff_eq, beq_iff_eq]
  constructor
  · intro h
    induction xs generalizing ys with
    | nil => cases ys with
      | nil => rfl
      | cons _ _ => simp [Lib.bytesOf] at h
    | cons x xs ih => cases ys with
      | nil => simp [Lib.bytesOf] at h
      | cons y ys =>
        simp only [Lib.bytesOf, List.map_cons, List.cons.injEq] at h
        have h1 := hx x (by simp)
        have h2 := hy y (by simp)
        have h3 := congrArg UInt8.toNat h.1
        simp only [UInt8.toNat_ofNat'] at h3
        rw [ih ys (fun z hz => hx z (by simp [hz])) (fun z hz => hy z (by simp [hz])) h.2]
        have : x = y := by omega
        rw [this]
  · rintro rfl
    rfl
theorem bytesIn_of (w : World) (A : Option Addr) (xs : List Int) (h : (Kd.int .u8).C w A xs.length xs) (hA : ∀ a, A = some a → a = ⟨a.block, a.off, none⟩) : Lib.BytesIn w A xs.length xs := by
  intro hp
  obtain ⟨ad, h1, _⟩ := Kd.at_int h 0 (by omega) (by omega)
  subst h1
  obtain ⟨b, o, rfl⟩ : ∃ b o, ad = ⟨b, o, none⟩ := ⟨_, _, hA ad rfl⟩
  refine ⟨b, o, rfl, fun i hi => ?_⟩
  obtain ⟨ad, h1, h2⟩ := Kd.at_int h (i : Int) (by omega) (by omega)
  injection h1 with h1
  subst h1
  have hadd : (⟨b, o, none⟩ : Addr).add (i : Int).toNat = ⟨b, o + i, none⟩ := by unfold Addr.add; split <;> simp_all
  rw [hadd] at h2
  rw [h2]
  simp [rd]
theorem bequal_calls (w : World) (A1 A2 : Option Addr) (c1 c2 : Nat) (xs ys : List Int) (h1 : (Kd.int .u8).C w A1 xs.length xs) (h2 : (Kd.int .u8).C w A2 ys.length ys) (hA1 : ∀ a, A1 = some a → a = ⟨a.block, a.off, none⟩) (hA2 : ∀ a, A2 = some a → a = ⟨a.block, a.off, none⟩) (hx : ∀ x ∈ xs, 0 ≤ x ∧ x ≤ 255) (hy : ∀ x ∈ ys, 0 ≤ x ∧ x ≤ 255) :
    Calls Try.prog 24 #[.slice A1 xs.length c1, .slice A2 ys.length c2] w fun e w' => e = .returned (.bool (xs == ys)) ∧ w = w' := by
  refine Calls.mono (Any.bytes_Equal_all Try.laysnb115 A1 A2 xs.length c1 ys.length c2 xs ys w rfl rfl (bytesIn_of w A1 xs h1 hA1) (bytesIn_of w A2 ys h2 hA2)) ?_
  rintro e w' ⟨rfl, rfl⟩
  exact ⟨by rw [bytesOf_eq xs ys hx hy], rfl⟩

set_option maxRecDepth 100000 in
theorem ask_again (w : World) (g b : Nat) (m : List (Int × Ans)) (c s : Int) (h : TbAt w g b m) (hm : mayB c = true) (hs1 : 1 ≤ s) (hq : s = (lastA c m).seq) :
    Calls Try.prog 13 #[.pointer (some ⟨g, 0, none⟩), .int .i64 c, .int .i64 s] w fun e w' => e = .returned (.tuple #[.agg #[.int .i64 (lastA c m).seq, .bool (lastA c m).done, .int .i64 (lastA c m).rev, .int .i64 (lastA c m).code], .bool true, .int .i64 0]) ∧ Below w.heap.size w w' := by
  obtain ⟨hblk, hI⟩ := h
  have hgl := blk_lt hblk
  have hlk := look (w.alloc (.cells #[.int .i64 0, .bool false, .int .i64 0, .int .i64 0] 29)) b m (hI.below (below_alloc (Below.refl _ _) _)) c
  have hc0 : w.cell? ⟨g, 0, none⟩ = some (.map (some b)) := (blk_cell hblk 0).trans rfl
  clear hblk hI
  subst hq
  generalize (lastA c m).seq = sq at hlk hs1 ⊢
  go_enter Try.func13, Try.ntmps13
  go_wp2_with (go_at_call 14; refine (may_calls _ _).mono ?_; rintro e w' ⟨rfl, rfl⟩)
  refine bodyPost_ret (v := .tuple #[.agg #[.int .i64 sq, .bool (lastA c m).done, .int .i64 (lastA c m).rev, .int .i64 (lastA c m).code], .bool true, .int .i64 0]) (by simp [results, Try.results13, go_sem]) rfl ⟨rfl, ?_⟩
  go_grown

set_option maxRecDepth 100000 in
theorem ask_far (w : World) (g b : Nat) (m : List (Int × Ans)) (c s : Int) (h : TbAt w g b m) (hm : mayB c = true) (hs1 : 1 ≤ s) (hq : s ≠ (lastA c m).seq) (hq1 : s ≠ wrap64 ((lastA c m).seq + 1)) :
    Calls Try.prog 13 #[.pointer (some ⟨g, 0, none⟩), .int .i64 c, .int .i64 s] w fun e w' => e = .returned (.tuple #[.agg #[.int .i64 0, .bool false, .int .i64 0, .int .i64 0], .bool false, .int .i64 16]) ∧ Below w.heap.size w w' := by
  obtain ⟨hblk, hI⟩ := h
  have hgl := blk_lt hblk
  have hlk := look (w.alloc (.cells #[.int .i64 0, .bool false, .int .i64 0, .int .i64 0] 29)) b m (hI.below (below_alloc (Below.refl _ _) _)) c
  have hc0 : w.cell? ⟨g, 0, none⟩ = some (.map (some b)) := (blk_cell hblk 0).trans rfl
  clear hblk hI
  have hq' : (s == (lastA c m).seq) = false := by simpa using hq
  have hq1' : (s == wrap64 ((lastA c m).seq + 1)) = false := by simpa using hq1
  clear hq hq1
  go_enter Try.func13, Try.ntmps13
  go_wp2_with (go_at_call 14; refine (may_calls _ _).mono ?_; rintro e w' ⟨rfl, rfl⟩)
  refine bodyPost_ret (v := .tuple #[.agg #[.int .i64 0, .bool false, .int .i64 0, .int .i64 0], .bool false, .int .i64 16]) (by simp [results, Try.results13, go_sem]) rfl ⟨rfl, ?_⟩
  go_grown
end Go.Proofs.Ytjigjchcmcmbhaa
