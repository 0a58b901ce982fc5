import Derived.Test.YtjigjchcmcmbhaaBase
import Derived.Test.YtjigjchcmcmbhaaLayB
import Derived.RangeFuncCalls
import Derived.RangeFuncLeaves
import Derived.Shelf.Abstract
import Derived.Shelf.AbstractIn
import Derived.Shelf.RegionOpen
import Derived.OwnWalkIn
namespace Go.Proofs.Ytjigjchcmcmbhaa
open Go Go.RowKit Go.MapKept Go.Maps Go.Sort Go.Shelf Go.Proofs.YtjigjchcmcmbhaaW.PrintWords
set_option linter.unusedSimpArgs false
set_option linter.unusedVariables false

/-! ### the keys of a map, sorted -/
def anyR : Value → Option (DataW Unit × List MemPlace) := fun _ => some (.nil, [])
section
variable {α : Type} {enc : α → Value} {w : World} {b : Nat} {m : List (Int × α)} {P : Program} {k : TypeId}
theorem ownsMap_of (h : IMap enc w b m) (hk : P.underlying k = some (.int .i64)) : ∃ D : DataW Unit, w.ownsMap P k anyR b m.length D ∧ (intKeys D).Perm (m.map Prod.fst) ∧ Maps.size D = m.length := by
  obtain ⟨es, clock, hb, hs, he, hw, hm⟩ := h
  have hsz : es.size = m.length := by
    have := congrArg List.length he
    simpa using this
  have hrd : ∀ x ∈ es.toList, ∃ q : Int, x.key = .int .i64 q ∧ (Lit.int .i64 q).wf = true := by
    intro x hx
    have h1 : pairOf x ∈ m.map (encP enc) := by rw [← he]; exact List.mem_map_of_mem hx
    obtain ⟨p, hp, h2⟩ := List.mem_map.1 h1
    simp only [pairOf, encP, Prod.mk.injEq] at h2
    exact ⟨p.1, h2.1.symm, hw p hp⟩
  have hrg : ∀ x ∈ es.toList, ∀ q : Int, x.key = .int .i64 q → WideElems.rd (H := Unit) P k anyR x = some (.int .i64 q, .nil) := by
    intro x hx q hq
    obtain ⟨q', h1, h2⟩ := hrd x hx
    rw [hq] at h1
    injection h1 with _ h1
    subst h1
    simp [WideElems.rd, hq, keyOf_int_mk hk h2, anyR]
  refine ⟨_, ⟨es, clock, hb, ⟨by rw [hsz]; simp only [maxLen]; omega, hs, fun x hx => ?_⟩, by omega, rfl⟩, ?_, ?_⟩
  · obtain ⟨q, h1, _⟩ := hrd x hx
    exact ⟨_, hrg x hx q h1⟩
  · have hmap : ∀ (l : List MapEntry), (∀ x ∈ l, x ∈ es.toList) → ∀ m' : List (Int × α), l.map pairOf = m'.map (encP enc) → (l.map (WideElems.rg (H := Unit) P k anyR)) = m'.map fun p => (Lit.int .i64 p.1, DataW.nil) := by
      intro l
      induction l with
      | nil => intro _ m' h; cases m' with
        | nil => rfl
        | cons _ _ => simp at h
      | cons x l ih =>
        intro hin m' h
        cases m' with
        | nil => simp at h
        | cons p m' =>
          simp only [List.map_cons, List.cons.injEq] at h ⊢
          refine ⟨?_, ih (fun y hy => hin y (by simp [hy])) m' h.2⟩
          have h1 := h.1
          simp only [pairOf, encP, Prod.mk.injEq] at h1
          simp [WideElems.rg, hrg x (hin x (by simp)) p.1 h1.1]
    rw [hmap es.toList (fun _ h => h) m he]
    have h1 := (WideShapes.sorted_perm (m.map fun p => (Lit.int .i64 p.1, (DataW.nil : DataW Unit)))).map fun p => Go.intOf p.1
    simp only [List.map_map] at h1
    exact h1
  · show (List.foldr DataW.insert [] _).length = _
    rw [(WideShapes.sorted_perm _).length_eq, List.length_map, Array.length_toList, hsz]
end
theorem sortsA (m : Nat) : AnyZI.SortsIn Try.prog Try.sortedA_ren Fence.wide m :=
  ⟨fun blk off cap ss W hH hblk hsz => callsIn_wide.2 (AnyM.slices_Sort_int Try.sortA blk off cap ss W hH hblk hsz),
   fun p cap W => callsIn_wide.2 (AnyM.slices_Sort_int_none Try.sortA p cap W)⟩
theorem sortI_perm {l l' : List Int} (h : l.Perm l') : l.mergeSort (fun x y => decide (x ≤ y)) = l'.mergeSort (fun x y => decide (x ≤ y)) := by
  have tr : ∀ a b c : Int, decide (a ≤ b) = true → decide (b ≤ c) = true → decide (a ≤ c) = true := fun a b c h1 h2 => by simp only [decide_eq_true_eq] at *; omega
  have tot : ∀ a b : Int, (decide (a ≤ b) || decide (b ≤ a)) = true := fun a b => by simp only [Bool.or_eq_true, decide_eq_true_eq]; omega
  refine List.Perm.eq_of_pairwise (le := fun a b : Int => decide (a ≤ b) = true) (fun a b _ _ h1 h2 => ?_) (List.pairwise_mergeSort tr tot l) (List.pairwise_mergeSort tr tot l') (((List.mergeSort_perm l _).trans h).trans (List.mergeSort_perm l' _).symm)
  simp only [decide_eq_true_eq] at h1 h2
  omega
def sortI (l : List Int) : List Int := l.mergeSort fun x y => decide (x ≤ y)
/-- maps.Keys: a function value over one new block that holds the map. -/
theorem keys_calls (b : Nat) (w : World) : Calls Try.prog 27 #[.map (some b)] w fun e w' =>
    e = .returned (.func (.func 35) #[] #[.pointer (some ⟨w.heap.size, 0, none⟩)]) ∧ w' = w.alloc (.cells #[.map (some b)] 41) :=
  callsIn_wide.1 (AnyZI.keys_in Try.keysA Fence.wide 5 trivial rfl (some b) w)
/-- slices.Sorted of what maps.Keys handed back: the keys, rising. -/
theorem sorted_calls {α : Type} {enc : α → Value} {m : List (Int × α)} (b B : Nat) (w : World) (h : IMap enc w b m) (hB : B < w.heap.size) (hc : w.cell? ⟨B, 0, none⟩ = some (.map (some b))) :
    Calls Try.prog 26 #[.func (.func 35) #[] #[.pointer (some ⟨B, 0, none⟩)]] w fun e w' =>
      ∃ v, e = .returned v ∧ (Kd.int .i64).R 3 w' w.heap.size tt v (sortI (m.map Prod.fst)) ∧ Below w.heap.size w w' := by
  obtain ⟨D, hown, hperm, hsz⟩ := ownsMap_of h Try.underlying3
  have hl := h.len
  have hseq : SeqGives Fence.wide 2 Try.prog 35 #[.pointer (some ⟨B, 0, none⟩)] encZ (fun ss => ss.Perm (intKeys D)) (Maps.size D) w :=
    AnyZI.keys_gives (ρ := Try.keysA_ren) { Try.keysA with } Fence.wide _ trivial rfl (by omega) B b m.length D _ hB hc hown
  have cS := AnyZI.sorted_in Try.sortedA Fence.wide 5 trivial trivial trivial trivial rfl (by omega) (sortsA _) (enters_of Try.func34 (by kernel_rfl) rfl) 35 #[.pointer (some ⟨B, 0, none⟩)] trivial
    (enters_of Try.func35 (by kernel_rfl) rfl) _ _ (by rw [hsz]; simp only [maxLen]; omega) (by rw [hsz]; omega) _ hseq
  refine Calls.mono (callsIn_wide.1 cS) ?_
  rintro e w' ⟨v, ss, rfl, hS, hrow, hnil, hb⟩
  have hss : ss.mergeSort (fun x y => decide (x ≤ y)) = sortI (m.map Prod.fst) := by
    unfold sortI
    exact sortI_perm (hS.trans hperm)
  rw [hss] at hrow
  have hlen : ss.length = (sortI (m.map Prod.fst)).length := by rw [← hss, List.length_mergeSort]
  rw [hlen] at hrow
  exact ⟨v, rfl, Kd.R_of_own hrow (fun _ _ => trivial), hb⟩
end Go.Proofs.Ytjigjchcmcmbhaa
