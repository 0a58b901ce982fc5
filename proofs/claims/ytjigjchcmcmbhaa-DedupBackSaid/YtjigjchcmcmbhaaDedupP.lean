import Derived.Test.YtjigjchcmcmbhaaDedupE
namespace Go.Proofs.Ytjigjchcmcmbhaa
open Go Go.RowKit Go.MapKept Go.Proofs.YtjigjchcmcmbhaaW.PrintWords Go.Proofs.YtjigjchcmcmbhaaW.PrintLast
set_option linter.unusedSimpArgs false
set_option linter.unusedVariables false

theorem putTail_nil {m : Nat} (h : (putTail m).length = 0) : m = 0 := by
  rcases Nat.eq_zero_or_pos m with h0 | h0
  · exact h0
  · rw [putTail_pos m h0] at h
    simp at h
theorem getL_tail : ∀ (k m : Nat), m ≤ k → m ≤ 8589934592 → ∀ ys : List Int, getL ((putTail m).reverse ++ ys) 0 0 = getL ys (putTail m).length (m : Int) := by
  intro k
  induction k with
  | zero =>
    intro m hm _ ys
    obtain rfl : m = 0 := by omega
    rw [putTail_zero]; rfl
  | succ k ih =>
    intro m hm hb ys
    rcases Nat.eq_zero_or_pos m with rfl | hp
    · rw [putTail_zero]; rfl
    · rw [putTail_pos m hp, List.reverse_cons, List.append_assoc, List.singleton_append, ih (m / 128) (by omega) (by omega)]
      rw [getL, if_neg, if_neg (by omega), List.length_cons]
      · congr 1
        omega
      · rintro (⟨h1, h2⟩ | h1)
        · have := putTail_nil h1
          omega
        · omega
theorem getL_put (n : Nat) (h : n ≤ 1099511627776) (ys : List Int) : getL (putL n ++ ys) 0 0 = ((n : Int), ((putL n).length : Int), 0) := by
  rw [putL, List.reverse_cons, List.append_assoc, List.singleton_append, getL_tail (n / 128) (n / 128) (Nat.le_refl _) (by omega), getL, if_neg, if_pos (by omega), if_pos]
  · have h1 : ((n / 128 : Nat) : Int) * 128 + (n : Int) % 128 % 128 = n := by omega
    rw [h1]
    simp
  · simp [fitsB]; omega
  · rintro (⟨h1, h2⟩ | h1) <;> omega
theorem rnum_put (n : Int) (h : fitsB n = true) (ys : List Int) : rnum (putI n ++ ys) 0 = (n, ys, 0) := by
  have h' := h
  simp only [fitsB, Bool.and_eq_true, decide_eq_true_eq] at h'
  rw [putI, if_pos h, rnum, if_pos rfl, getL_put n.toNat (by omega), if_pos rfl]
  simp
  omega
theorem getL_ext : ∀ (xs : List Int) (i : Nat) (n : Int) (ys : List Int), (getL xs i n).2.2 = 0 → getL (xs ++ ys) i n = getL xs i n
  | [], i, n, ys, h => by simp [getL] at h
  | c :: r, i, n, ys, h => by
    rw [List.cons_append]
    unfold getL at h ⊢
    split
    · rfl
    · rename_i h1
      rw [if_neg h1] at h
      split
      · rfl
      · rename_i h2
        rw [if_neg h2] at h
        exact getL_ext r _ _ ys h
theorem rnum_ext {xs r : List Int} {e n : Int} (ys : List Int) (h : rnum xs e = (n, r, 0)) : e = 0 ∧ rnum (xs ++ ys) e = (n, r ++ ys, 0) := by
  unfold rnum at h
  split at h
  · rename_i he
    subst he
    refine ⟨rfl, ?_⟩
    split at h
    · rename_i h1
      have h2 := getL_ok xs 0 0 h1
      injection h with ha hb
      injection hb with hb _
      rw [rnum, if_pos rfl, getL_ext xs 0 0 ys h1, if_pos h1, ha, List.drop_append_of_le_length (by omega), hb]
    · injection h with _ h
      injection h with _ h
      cases h
  · rename_i he
    injection h with _ h
    injection h with _ h
    exact absurd h he
theorem rnum_ext' {xs : List Int} {e : Int} (ys : List Int) (h : (rnum xs e).2.2 = 0) : e = 0 ∧ rnum (xs ++ ys) e = ((rnum xs e).1, (rnum xs e).2.1 ++ ys, 0) :=
  rnum_ext ys (by rw [← h])
theorem fail_ne {e e0 : Int} (h : e0 ≠ 0) : failE e e0 ≠ 0 := by
  unfold failE
  split <;> assumption
theorem rflag_ext {xs : List Int} {e : Int} (ys : List Int) (h : (rflag xs e).2.2 = 0) : e = 0 ∧ rflag (xs ++ ys) e = ((rflag xs e).1, (rflag xs e).2.1 ++ ys, 0) := by
  simp only [rflag] at h ⊢
  by_cases h1 : 1 < (rnum xs e).1
  · rw [if_pos h1] at h
    exact absurd h (fail_ne (by decide))
  · rw [if_neg h1] at h
    obtain ⟨h2, h3⟩ := rnum_ext' ys h
    rw [h3]
    exact ⟨h2, by simp only [if_neg h1]⟩
theorem rent_ext {xs : List Int} {e : Int} (ys : List Int) (h : (rent xs e).2.2.2 = 0) : e = 0 ∧ rent (xs ++ ys) e = ((rent xs e).1, (rent xs e).2.1, (rent xs e).2.2.1 ++ ys, 0) := by
  obtain ⟨⟨c1, xs1, e1⟩, hq1⟩ : ∃ q, rnum xs e = q := ⟨_, rfl⟩
  obtain ⟨⟨s2, xs2, e2⟩, hq2⟩ : ∃ q, rnum xs1 e1 = q := ⟨_, rfl⟩
  obtain ⟨⟨d3, xs3, e3⟩, hq3⟩ : ∃ q, rflag xs2 e2 = q := ⟨_, rfl⟩
  obtain ⟨⟨r4, xs4, e4⟩, hq4⟩ : ∃ q, rnum xs3 e3 = q := ⟨_, rfl⟩
  obtain ⟨⟨t5, xs5, e5⟩, hq5⟩ : ∃ q, rnum xs4 e4 = q := ⟨_, rfl⟩
  have hr : rent xs e = (c1, ⟨s2, d3, r4, t5⟩, xs5, e5) := by simp only [rent, hq1, hq2, hq3, hq4, hq5]
  rw [hr] at h ⊢
  simp only at h
  subst h
  obtain ⟨rfl, h5⟩ := rnum_ext ys hq5
  obtain ⟨rfl, h4⟩ := rnum_ext ys hq4
  obtain ⟨rfl, h3⟩ := rflag_ext ys (show (rflag xs2 e2).2.2 = 0 by rw [hq3])
  rw [hq3] at h3
  obtain ⟨rfl, h2⟩ := rnum_ext ys hq2
  obtain ⟨rfl, h1⟩ := rnum_ext ys hq1
  refine ⟨rfl, ?_⟩
  simp only [rent, h1, h2, h3, h4, h5]
theorem loop_ext : ∀ (k : Nat) (xs : List Int) (e : Int) (m m2 : List (Int × Ans)) (ys : List Int), decLoop k xs e m = some (m2, 0) → e = 0 ∧ decLoop k (xs ++ ys) e m = some (m2, 0)
  | 0, xs, e, m, m2, ys, h => by
    simp only [decLoop, Option.some.injEq, Prod.mk.injEq] at h
    exact ⟨h.2, by simp [decLoop, h]⟩
  | k + 1, xs, e, m, m2, ys, h => by
    unfold decLoop at h
    split at h
    · rename_i hok
      have h0 : (rent xs e).2.2.2 = 0 := by
        simp only [entOk, Bool.and_eq_true, beq_iff_eq] at hok
        exact hok.1
      obtain ⟨h1, h2⟩ := rent_ext ys h0
      rw [h0] at h hok
      obtain ⟨_, h3⟩ := loop_ext k _ _ _ m2 ys h
      refine ⟨h1, ?_⟩
      rw [decLoop, h2]
      simp only [hok, if_true]
      exact h3
    · cases h
theorem many_ext {xs : List Int} (ys : List Int) (h : (rmany 20 xs 0).2.2 = 0) : rmany 20 (xs ++ ys) 0 = ((rmany 20 xs 0).1, (rmany 20 xs 0).2.1 ++ ys, 0) := by
  unfold rmany at h ⊢
  by_cases h1 : 20 < (rnum xs 0).1
  · rw [if_pos h1] at h
    exact absurd h (fail_ne (by decide))
  · rw [if_neg h1] at h ⊢
    obtain ⟨h2, h3⟩ := rnum_ext' ys h
    rw [h3]
    simp only [if_neg h1]
/-- What stands behind a whole table changes nothing of what was read. -/
theorem dec_ext {xs : List Int} {m : List (Int × Ans)} (ys : List Int) (h : decT xs = some m) :
    encT m = xs ∧ decLoop (rmany 20 (xs ++ ys) 0).1.toNat (rmany 20 (xs ++ ys) 0).2.1 (rmany 20 (xs ++ ys) 0).2.2 [] = some (m, 0) := by
  unfold decT at h
  match hq : decLoop (rmany 20 xs 0).1.toNat (rmany 20 xs 0).2.1 (rmany 20 xs 0).2.2 [] with
  | none => rw [hq] at h; cases h
  | some (m2, e) =>
    rw [hq] at h
    simp only [decFin] at h
    split at h
    · rename_i h1
      obtain ⟨rfl, h2⟩ := h1
      injection h with h
      subst h
      refine ⟨h2, ?_⟩
      obtain ⟨h3, h4⟩ := loop_ext _ _ _ _ _ ys hq
      rw [many_ext ys h3]
      rw [h3] at h4
      exact h4
    · cases h
end Go.Proofs.Ytjigjchcmcmbhaa
