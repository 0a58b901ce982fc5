import Derived.Test.YtjigjchcmcmbhaaDedupD
namespace Go.Proofs.Ytjigjchcmcmbhaa
open Go Go.RowKit Go.MapKept Go.Proofs.YtjigjchcmcmbhaaW.PrintWords Go.Proofs.YtjigjchcmcmbhaaW.PrintLast
set_option linter.unusedSimpArgs false
set_option linter.unusedVariables false

theorem rnum_fits (xs : List Int) (e : Int) : fitsB (rnum xs e).1 = true := by
  unfold rnum
  split
  · split
    · rename_i h
      exact (getL_ok xs 0 0 h).2.2
    · rfl
  · rfl
theorem mset_len (x : Int) (a : Ans) : ∀ m : List (Int × Ans), (mset x a m).length ≤ m.length + 1
  | [] => by simp [mset]
  | (y, b) :: r => by
    have := mset_len x a r
    unfold mset
    split
    · simp
    · simp only [List.length_cons]; omega
theorem mset_mem (x : Int) (a : Ans) : ∀ (m : List (Int × Ans)) (p : Int × Ans), p ∈ mset x a m → p ∈ m ∨ p = (x, a)
  | [], p, h => by simp [mset] at h; exact .inr h
  | (y, b) :: r, p, h => by
    unfold mset at h
    split at h
    · rcases List.mem_cons.1 h with rfl | h
      · exact .inr rfl
      · exact .inl (by simp [h])
    · rcases List.mem_cons.1 h with rfl | h
      · exact .inl (by simp)
      · rcases mset_mem x a r p h with h | h
        · exact .inl (by simp [h])
        · exact .inr h
/-- One entry, read. -/
def rent (xs : List Int) (e : Int) : Int × Ans × List Int × Int :=
  let q1 := rnum xs e
  let q2 := rnum q1.2.1 q1.2.2
  let q3 := rflag q2.2.1 q2.2.2
  let q4 := rnum q3.2.1 q3.2.2
  let q5 := rnum q4.2.1 q4.2.2
  (q1.1, ⟨q2.1, q3.1, q4.1, q5.1⟩, q5.2.1, q5.2.2)
def entOk (c : Int) (a : Ans) (e : Int) : Bool := (e == 0) && (mayB c && (decide (1 ≤ a.seq) && soundB a))
def decLoop : Nat → List Int → Int → List (Int × Ans) → Option (List (Int × Ans) × Int)
  | 0, _, e, m => some (m, e)
  | k + 1, xs, e, m => if entOk (rent xs e).1 (rent xs e).2.1 (rent xs e).2.2.2 then decLoop k (rent xs e).2.2.1 (rent xs e).2.2.2 (mset (rent xs e).1 (rent xs e).2.1 m) else none
def decFin (bs : List Int) : Option (List (Int × Ans) × Int) → Option (List (Int × Ans))
  | none => none
  | some (m, e) => if e = 0 ∧ encT m = bs then some m else none
def decT (bs : List Int) : Option (List (Int × Ans)) := decFin bs (decLoop (rmany 20 bs 0).1.toNat (rmany 20 bs 0).2.1 (rmany 20 bs 0).2.2 [])
def DecPost (w : World) (bs : List Int) (e : Ending) (w' : World) : Prop :=
  Below w.heap.size w w' ∧ ((decT bs = none ∧ e = .returned (.tuple #[.pointer none, .int .i64 2])) ∨
    ∃ g b m, decT bs = some m ∧ e = .returned (.tuple #[.pointer (some ⟨g, 0, none⟩), .int .i64 0]) ∧ w.heap.size ≤ g ∧ w.heap.size ≤ b ∧ TbAt w' g b m ∧ (∀ p ∈ m, GoodE p) ∧ m.length ≤ 20)
def DecInv (w : World) (A : Option Addr) (c : Nat) (bs : List Int) (l : Nat) (a' : Act) (w' : World) : Prop :=
  (l = 1 ∧ ∃ (g b gr ga k : Nat) (xs : List Int) (e : Int) (m : List (Int × Ans)), m.length + k ≤ 20 ∧ Aside0 (decT bs = decFin bs (decLoop k xs e m)) ∧ Aside0 (TbAt w' g b m) ∧ Aside0 (RdAt w' gr xs e) ∧
      Aside0 (∃ (s : Int) (d : Bool) (r t : Int), w'.heap[ga]? = some (.cells #[.int .i64 s, .bool d, .int .i64 r, .int .i64 t] 29 (0, 0))) ∧ Aside0 (∀ p ∈ m, GoodE p) ∧ Aside0 (Below w.heap.size w w') ∧
      w.heap.size ≤ g ∧ w.heap.size ≤ b ∧ w.heap.size ≤ gr ∧ w.heap.size ≤ ga ∧ ∃ u1 u2 u3 u7 u9 u10 u11 u12 u13 u14 u15 u16 u17 u18 u19 u20 u21 u22 u23 u24 u25 u26 u27 u28 u29 u30 u31 u32 u33 u34 u35 u36 u37 u38 u39 u40 u41 u42 u43 u44 u45 u46 u47 u48 u49 u50 u51 u52 u53 u54 u55 u56 u57 u58 u59 u60 u61 u62 u63 : Value, a' = { tmps := #[.slice A bs.length c, u1, u2, u3, .pointer (some ⟨g, 0, none⟩), .pointer (some ⟨gr, 0, none⟩), .int .i64 (k : Int), u7, .pointer (some ⟨ga, 0, none⟩), u9, u10, u11, u12, u13, u14, u15, u16, u17, u18, u19, u20, u21, u22, u23, u24, u25, u26, u27, u28, u29, u30, u31, u32, u33, u34, u35, u36, u37, u38, u39, u40, u41, u42, u43, u44, u45, u46, u47, u48, u49, u50, u51, u52, u53, u54, u55, u56, u57, u58, u59, u60, u61, u62, u63], defers := [] }) ∨
  (l = 0 ∧ ∃ (g b gr : Nat) (xs : List Int) (e : Int) (m : List (Int × Ans)), m.length ≤ 20 ∧ Aside0 (decT bs = decFin bs (some (m, e))) ∧ Aside0 (TbAt w' g b m) ∧ Aside0 (RdAt w' gr xs e) ∧ Aside0 (∀ p ∈ m, GoodE p) ∧ Aside0 (Below w.heap.size w w') ∧
      w.heap.size ≤ g ∧ w.heap.size ≤ b ∧ w.heap.size ≤ gr ∧ ∃ u1 u2 u3 u6 u7 u8 u9 u10 u11 u12 u13 u14 u15 u16 u17 u18 u19 u20 u21 u22 u23 u24 u25 u26 u27 u28 u29 u30 u31 u32 u33 u34 u35 u36 u37 u38 u39 u40 u41 u42 u43 u44 u45 u46 u47 u48 u49 u50 u51 u52 u53 u54 u55 u56 u57 u58 u59 u60 u61 u62 u63 : Value, a' = { tmps := #[.slice A bs.length c, u1, u2, u3, .pointer (some ⟨g, 0, none⟩), .pointer (some ⟨gr, 0, none⟩), u6, u7, u8, u9, u10, u11, u12, u13, u14, u15, u16, u17, u18, u19, u20, u21, u22, u23, u24, u25, u26, u27, u28, u29, u30, u31, u32, u33, u34, u35, u36, u37, u38, u39, u40, u41, u42, u43, u44, u45, u46, u47, u48, u49, u50, u51, u52, u53, u54, u55, u56, u57, u58, u59, u60, u61, u62, u63], defers := [] })
theorem u8_range (n : Nat) (h : n ≤ 1099511627776) : ∀ x ∈ putL n, 0 ≤ x ∧ x ≤ 255 := by
  have key : ∀ (k m : Nat), m ≤ k → ∀ x ∈ putTail m, 0 ≤ x ∧ x ≤ 255 := by
    intro k
    induction k with
    | zero => intro m hm x hx
              obtain rfl : m = 0 := by omega
              rw [putTail_zero] at hx; cases hx
    | succ k ih =>
      intro m hm x hx
      rcases Nat.eq_zero_or_pos m with rfl | hp
      · rw [putTail_zero] at hx; cases hx
      · rw [putTail_pos m hp] at hx
        rcases List.mem_cons.1 hx with rfl | hx
        · omega
        · exact ih (m / 128) (by omega) x hx
  intro x hx
  simp only [putL, List.mem_reverse, List.mem_cons] at hx
  rcases hx with rfl | hx
  · omega
  · exact key _ _ (Nat.le_refl _) x hx
theorem putI_range (n : Int) : ∀ x ∈ putI n, 0 ≤ x ∧ x ≤ 255 := by
  unfold putI
  split
  · rename_i h
    simp [fitsB] at h
    exact u8_range _ (by omega)
  · simp
theorem encT_range (m : List (Int × Ans)) : ∀ x ∈ encT m, 0 ≤ x ∧ x ≤ 255 := by
  intro x hx
  simp only [encT, List.mem_append, List.mem_flatMap, entL] at hx
  rcases hx with hx | ⟨c, _, hx⟩
  · exact putI_range _ x hx
  · rcases hx with ((((hx | hx) | hx) | hx) | hx) <;> exact putI_range _ x hx
end Go.Proofs.Ytjigjchcmcmbhaa
