import Derived.Test.YtjigjchcmcmbhaaProg
import Derived.Test.YtjigjchcmcmbhaaWMore
import Derived.WalkKit
import Derived.WalkMore
import Derived.Handy
import Derived.Maps.Own
import Derived.Outline
import Derived.Scope
import Derived.Sort.Row
import Derived.Maps.RangeWalk
import Derived.Sort.Grow
namespace Go.Proofs.Ytjigjchcmcmbhaa
open Go Go.RowKit Go.MapKept Go.Proofs.YtjigjchcmcmbhaaW.PrintWords
set_option linter.unusedSimpArgs false
set_option linter.unusedVariables false

/-! ### 1. A scope with labels: what holds at every jump -/
def jumps (J : Nat → Act → World → Prop) (Q : Exit → Act → World → Prop) : Exit → Act → World → Prop
  | .goto l, a, w => J l a w
  | e, a, w => Q e a w
section
variable {P : Program} {a : Act} {w : World} {Q : Exit → Act → World → Prop} {J : Nat → Act → World → Prop}
theorem jumps_goto (l : Nat) : jumps J Q (.goto l) a w = J l a w := rfl
theorem jumps_ret : jumps J Q .ret a w = Q .ret a w := rfl
theorem jumps_normal : jumps J Q .normal a w = Q .normal a w := rfl
theorem jumps_exit (n : Nat) : jumps J Q (.exit n) a w = Q (.exit n) a w := rfl
theorem jumps_weaken {J' : Nat → Act → World → Prop} (h : ∀ l a w, J' l a w → J l a w) : ∀ e a w, jumps J' Q e a w → jumps J Q e a w := by
  intro e a w hq
  cases e with
  | goto l => exact h l a w hq
  | normal => exact hq
  | exit id => exact hq
  | ret => exact hq
  | panic ch => exact hq
  | outgrown => exact hq
theorem wp_skip_seq {r : Code} (h : r.wp P Q a w) : (Code.seq .skip r).wp P Q a w := wp_seq (wp_skip h)
theorem wp_scope_all {c : Code} (J : Nat → Act → World → Prop) (μ : Nat → Act → World → Nat)
    (pass : ∀ l a w, J l a w → ∃ r, findLabel c l = some (.seq .skip r) ∧ r.wp P (jumps (fun l' a' w' => J l' a' w' ∧ μ l' a' w' < μ l a w) Q) a w)
    (first : (∀ l r a w, findLabel c l = some (.seq .skip r) → J l a w → r.wp P (jumps J Q) a w) → c.wp P (jumps J Q) a w) : (Code.scope c).wp P Q a w := by
  have first' := first (fun l r a w hf hJ => by
    obtain ⟨r', hf', hp⟩ := pass l a w hJ
    obtain rfl : r' = r := by rw [hf'] at hf; injection hf with hf; injection hf
    exact wp_mono hp (jumps_weaken fun _ _ _ h => h.1))
  clear first
  intro b k cs
  have key : ∀ n l a w rest, μ l a w = n → J l a w → findLabel c l = some rest → ∃ e a' w', Q e a' w' ∧ Arrives P (lone (b.at a (.code rest :: .inScope c :: k)) cs w) b k cs e a' w' := by
    intro n
    induction n using Nat.strongRecOn with
    | _ n ih =>
      intro l a w rest hn hJ hf
      obtain ⟨r, hf', hp'⟩ := pass l a w hJ
      obtain rfl : .seq .skip r = rest := by rw [hf'] at hf; exact Option.some.inj hf
      have hp := wp_skip_seq hp'
      obtain ⟨e, a₁, w₁, hq, harr⟩ := hp b (.inScope c :: k) cs
      cases e with
      | normal => exact ⟨.normal, a₁, w₁, hq, Steps.trans harr (.one step_inScope)⟩
      | exit id => exact ⟨.exit id, a₁, w₁, hq, fun k' hk => harr k' (by simp [exitTo, hk])⟩
      | goto l' =>
        obtain ⟨hJ', hlt⟩ := hq
        obtain ⟨r2, hf2, _⟩ := pass l' a₁ w₁ hJ'
        have hg : gotoIn l' (.inScope c :: k) = some (.code (.seq .skip r2) :: .inScope c :: k) := by simp [gotoIn, hf2]
        obtain ⟨e₂, a₂, w₂, hq₂, harr₂⟩ := ih _ (by omega) l' a₁ w₁ _ rfl hJ' hf2
        exact ⟨e₂, a₂, w₂, hq₂, .of_steps (harr _ hg) harr₂⟩
      | ret => exact ⟨_, a₁, w₁, hq, harr⟩
      | panic ch => exact ⟨_, a₁, w₁, hq, harr⟩
      | outgrown => exact ⟨_, a₁, w₁, hq, harr⟩
  obtain ⟨e, a₁, w₁, hq, harr⟩ := first' b (.inScope c :: k) cs
  cases e with
  | normal => exact ⟨.normal, a₁, w₁, hq, .head step_scope (Steps.trans harr (.one step_inScope))⟩
  | exit id => exact ⟨.exit id, a₁, w₁, hq, fun k' hk => .head step_scope (harr k' (by simp [exitTo, hk]))⟩
  | goto l' =>
    obtain ⟨r2, hf2, _⟩ := pass l' a₁ w₁ hq
    have hg : gotoIn l' (.inScope c :: k) = some (.code (.seq .skip r2) :: .inScope c :: k) := by simp [gotoIn, hf2]
    obtain ⟨e₂, a₂, w₂, hq₂, harr₂⟩ := key _ l' a₁ w₁ _ rfl hq hf2
    exact ⟨e₂, a₂, w₂, hq₂, .of_steps (.head step_scope (harr _ hg)) harr₂⟩
  | ret => exact ⟨_, a₁, w₁, hq, .of_steps (.one step_scope) harr⟩
  | panic ch => exact ⟨_, a₁, w₁, hq, .of_steps (.one step_scope) harr⟩
  | outgrown => exact ⟨_, a₁, w₁, hq, .of_steps (.one step_scope) harr⟩
end

/-! ### 2. Maps keyed by int: an association list in the order of the entries -/
section
variable {α : Type}
def mset (x : Int) (a : α) : List (Int × α) → List (Int × α)
  | [] => [(x, a)]
  | (y, b) :: r => if y = x then (x, a) :: r else (y, b) :: mset x a r
def mdel (x : Int) : List (Int × α) → List (Int × α)
  | [] => []
  | (y, b) :: r => if y = x then r else (y, b) :: mdel x r
def mget (x : Int) : List (Int × α) → Option α
  | [] => none
  | (y, b) :: r => if y = x then some b else mget x r
def midx (x : Int) : List (Int × α) → Nat → Option (Nat × α)
  | [], _ => none
  | (y, b) :: r, i => if y = x then some (i, b) else midx x r (i + 1)
def pairOf (e : MapEntry) : Value × Value := (e.key, e.val)
def encP (enc : α → Value) (p : Int × α) : Value × Value := (.int .i64 p.1, enc p.2)
def IMap (enc : α → Value) (w : World) (b : Nat) (m : List (Int × α)) : Prop :=
  ∃ es clock, w.heap[b]? = some (.map es clock) ∧ Stamped es clock ∧ es.toList.map pairOf = m.map (encP enc) ∧ (∀ p ∈ m, (Lit.int .i64 p.1).wf = true) ∧ m.length ≤ 1000000

theorem midx_get (x : Int) : ∀ (m : List (Int × α)) (i : Nat), (midx x m i).map Prod.snd = mget x m
  | [], _ => rfl
  | (y, b) :: r, i => by
    unfold midx mget
    split
    · rfl
    · exact midx_get x r (i + 1)
theorem findNow_map (enc : α → Value) (x : Int) : ∀ (es : List MapEntry) (m : List (Int × α)) (i : Nat), es.map pairOf = m.map (encP enc) →
    Instr.findNow (.int .i64) (.int .i64 x) es i = some ((midx x m i).map fun p => (p.1, enc p.2))
  | [], [], _, _ => rfl
  | [], _ :: _, _, h => by simp at h
  | _ :: _, [], _, h => by simp at h
  | e :: es, (y, b) :: m, i, h => by
    simp only [List.map_cons, List.cons.injEq, pairOf, encP, Prod.mk.injEq] at h
    obtain ⟨⟨hk, hv⟩, hr⟩ := h
    have ih := findNow_map enc x es m (i + 1) hr
    unfold Instr.findNow midx
    rw [hk, hv]
    by_cases e : y = x
    · subst e; simp [Instr.sameNow]
    · have : (x == y) = false := by simpa using fun h => e h.symm
      simp [Instr.sameNow, this, e]
      rw [ih]
theorem midx_none (x : Int) : ∀ (m : List (Int × α)) (i : Nat), midx x m i = none → ∀ p ∈ m, p.1 ≠ x
  | [], _, _ => by simp
  | (y, b) :: r, i, h => by
    unfold midx at h
    split at h
    · cases h
    · rename_i hne
      intro p hp
      rcases List.mem_cons.1 hp with rfl | hp
      · exact hne
      · exact midx_none x r (i + 1) h p hp
theorem midx_some (x : Int) : ∀ (m : List (Int × α)) (i j : Nat) (a : α), midx x m i = some (j, a) → i ≤ j ∧ m[j - i]? = some (x, a) ∧ ∀ a', mset x a' m = m.set (j - i) (x, a') ∧ mdel x m = m.eraseIdx (j - i)
  | [], _, _, _, h => by simp [midx] at h
  | (y, b) :: r, i, j, a, h => by
    unfold midx at h
    split at h
    · rename_i he
      simp only [Option.some.injEq, Prod.mk.injEq] at h
      obtain ⟨rfl, rfl⟩ := h
      subst he
      exact ⟨Nat.le_refl _, by simp, fun a' => by simp [mset, mdel]⟩
    · rename_i hne
      obtain ⟨h1, h2, h3⟩ := midx_some x r (i + 1) j a h
      refine ⟨by omega, ?_, fun a' => ?_⟩
      · rw [show j - i = (j - (i + 1)) + 1 by omega]; simpa using h2
      · obtain ⟨h4, h5⟩ := h3 a'
        rw [show j - i = (j - (i + 1)) + 1 by omega]
        simp only [mset, mdel, if_neg hne, List.set_cons_succ, List.eraseIdx_cons_succ]
        exact ⟨by rw [h4], by rw [h5]⟩
theorem mset_none (x : Int) (a : α) : ∀ (m : List (Int × α)), (∀ p ∈ m, p.1 ≠ x) → mset x a m = m ++ [(x, a)]
  | [], _ => rfl
  | (y, b) :: r, h => by
    have h1 := h (y, b) (by simp)
    simp only [mset, if_neg h1, List.cons_append]
    rw [mset_none x a r (fun p hp => h p (by simp [hp]))]
theorem mdel_none (x : Int) : ∀ (m : List (Int × α)), (∀ p ∈ m, p.1 ≠ x) → mdel x m = m
  | [], _ => rfl
  | (y, b) :: r, h => by
    have h1 := h (y, b) (by simp)
    simp only [mdel, if_neg h1]
    rw [mdel_none x r (fun p hp => h p (by simp [hp]))]
end
section
variable {α : Type} {enc : α → Value} {P : Program} {w : World} {b : Nat} {m : List (Int × α)} {t kt et : TypeId}
theorem key_i64 (x : Int) : IsKey (.int .i64) (.int .i64 x) := by simp [IsKey]
theorem IMap.made (enc : α → Value) (w : World) : IMap enc (w.alloc (.map #[] 0)) w.heap.size [] :=
  ⟨#[], 0, heap_alloc_new w _, stamped_empty 0, rfl, by simp, by simp⟩
theorem IMap.move {w1 : World} (h : IMap enc w b m) (hb : w1.heap[b]? = w.heap[b]?) : IMap enc w1 b m := by
  obtain ⟨es, clock, h1, h2⟩ := h
  exact ⟨es, clock, hb.trans h1, h2⟩
theorem IMap.lt (h : IMap enc w b m) : b < w.heap.size := by
  obtain ⟨es, clock, h1, _⟩ := h
  exact (Array.getElem?_eq_some_iff.1 h1).1
theorem IMap.len (h : IMap enc w b m) : m.length ≤ 1000000 := by
  obtain ⟨es, clock, _, _, _, _, h⟩ := h
  exact h
theorem IMap.wf (h : IMap enc w b m) : ∀ p ∈ m, (Lit.int .i64 p.1).wf = true := by
  obtain ⟨es, clock, _, _, _, h, _⟩ := h
  exact h
theorem IMap.below {w1 : World} (h : IMap enc w b m) (hb : Below w.heap.size w w1) : IMap enc w1 b m := h.move (hb.block b h.lt)
theorem IMap.nodup (h : IMap enc w b m) : (m.map Prod.fst).Nodup := by
  obtain ⟨es, clock, _, hs, he, _⟩ := h
  have h1 : es.toList.map (·.key) = m.map fun p => Value.int .i64 p.1 := by
    have := congrArg (List.map Prod.fst) he
    simpa [pairOf, encP, Function.comp_def] using this
  have h2 := hs.2.2
  rw [h1] at h2
  have h3 : (m.map fun p => Value.int .i64 p.1) = (m.map Prod.fst).map (Value.int .i64) := by simp [Function.comp_def]
  rw [h3] at h2
  exact List.Pairwise.of_map (Value.int .i64) (fun a b hne e => hne (by rw [e])) h2
theorem run_look (h : IMap enc w b m) (ht : P.underlying t = some (.map kt et)) (hk : P.underlying kt = some (.int .i64)) {z : Value} (hz : (zeroValue et).run P w = .ok z w) (x : Int) :
    (Instr.lookup t (.map (some b)) (.int .i64 x) false).run P w = .ok ((mget x m).elim z enc) w := by
  obtain ⟨es, clock, hb, hs, he, _⟩ := h
  have hf := findNow_map enc x es.toList m 0 he
  have hg := midx_get x m 0
  cases hi : midx x m 0 with
  | none =>
    rw [hi] at hf hg
    simp only [Option.map_none] at hf hg
    rw [← hg]
    simp [Instr.lookup, run_underlying ht, MapKept.run_getObj_map hb, MapKept.run_checkKey hk (key_i64 x), MapKept.run_findKey hk hf, hz, Result.andThen]
  | some p =>
    rw [hi] at hf hg
    simp only [Option.map_some] at hf hg
    rw [← hg]
    simp [Instr.lookup, run_underlying ht, MapKept.run_getObj_map hb, MapKept.run_checkKey hk (key_i64 x), MapKept.run_findKey hk hf, Result.andThen]
theorem run_look_ok (h : IMap enc w b m) (ht : P.underlying t = some (.map kt et)) (hk : P.underlying kt = some (.int .i64)) {z : Value} (hz : (zeroValue et).run P w = .ok z w) (x : Int) :
    (Instr.lookup t (.map (some b)) (.int .i64 x) true).run P w = .ok (.tuple #[(mget x m).elim z enc, .bool (mget x m).isSome]) w := by
  obtain ⟨es, clock, hb, hs, he, _⟩ := h
  have hf := findNow_map enc x es.toList m 0 he
  have hg := midx_get x m 0
  cases hi : midx x m 0 with
  | none =>
    rw [hi] at hf hg
    simp only [Option.map_none] at hf hg
    rw [← hg]
    simp [Instr.lookup, run_underlying ht, MapKept.run_getObj_map hb, MapKept.run_checkKey hk (key_i64 x), MapKept.run_findKey hk hf, hz, Result.andThen]
  | some p =>
    rw [hi] at hf hg
    simp only [Option.map_some] at hf hg
    rw [← hg]
    simp [Instr.lookup, run_underlying ht, MapKept.run_getObj_map hb, MapKept.run_checkKey hk (key_i64 x), MapKept.run_findKey hk hf, Result.andThen]
theorem modify_pairs (es : Array MapEntry) (i : Nat) (k v : Value) : (es.modify i fun e => { e with key := k, val := v }).toList.map pairOf = (es.toList.map pairOf).set i (k, v) := by
  apply List.ext_getElem?
  intro j
  simp only [List.getElem?_map, Array.getElem?_toList, Array.getElem?_modify, List.getElem?_set, List.length_map, Array.length_toList]
  by_cases hj : i = j
  · subst hj
    by_cases hl : i < es.size
    · simp [hl, pairOf]
    · simp [hl]
  · simp [hj]
/-- What a store into the map leaves: that map's block alone has turned. -/
theorem run_put (h : IMap enc w b m) (ht : P.underlying t = some (.map kt et)) (hk : P.underlying kt = some (.int .i64)) (x : Int) (hx : (Lit.int .i64 x).wf = true) (a : α) (hl : m.length < 1000000) :
    ∃ w', (Instr.mapUpdate t (.map (some b)) (.int .i64 x) (enc a)).run P w = .ok () w' ∧ IMap enc w' b (mset x a m) ∧ w.grownBy w' (some b) ∧ w'.heap.size = w.heap.size := by
  obtain ⟨es, clock, hb, hs, he, hw, hm⟩ := h
  have hf := findNow_map enc x es.toList m 0 he
  have grown : ∀ o, w.grownBy { w with heap := w.heap.setIfInBounds b o } (some b) := fun o => ⟨rfl, rfl, rfl, by simp, fun i _ hi => (heap_set hb).2 i (fun e => hi (by rw [e]))⟩
  cases hi : midx x m 0 with
  | none =>
    have hn := midx_none x m 0 hi
    rw [hi] at hf
    simp only [Option.map_none] at hf
    refine ⟨{ w with heap := w.heap.setIfInBounds b (.map (es.push { key := .int .i64 x, val := enc a, born := clock }) (clock + 1)) }, ?_, ⟨_, _, (heap_set hb).1, stamped_push hs ?_, ?_, ?_, ?_⟩, grown _, by simp⟩
    · simp [Instr.mapUpdate, run_underlying ht, MapKept.run_getObj_map hb, MapKept.run_checkKey hk (key_i64 x), MapKept.run_findKey hk hf, MapKept.run_setObj_map _ hb, Result.andThen]
    · intro e hin heq
      have h1 : pairOf e ∈ m.map (encP enc) := by rw [← he]; exact List.mem_map_of_mem hin
      obtain ⟨p, hp, h2⟩ := List.mem_map.1 h1
      simp only [pairOf, encP, Prod.mk.injEq] at h2
      rw [heq] at h2
      have h3 := h2.1
      injection h3 with _ h3
      exact hn p hp h3
    · rw [mset_none x a m hn]
      simp [pairOf, encP] at he ⊢
      exact he
    · rw [mset_none x a m hn]
      intro p hp
      rcases List.mem_append.1 hp with hp | hp
      · exact hw p hp
      · rw [List.mem_singleton.1 hp]; exact hx
    · rw [mset_none x a m hn, List.length_append]; simp; omega
  | some p =>
    obtain ⟨j, a0⟩ := p
    obtain ⟨_, h2, h3⟩ := midx_some x m 0 j a0 hi
    obtain ⟨h4, _⟩ := h3 a
    simp only [Nat.sub_zero] at h2 h4
    rw [hi] at hf
    simp only [Option.map_some] at hf
    have hej : ∃ e, es[j]? = some e ∧ e.key = .int .i64 x := by
      have h5 : (es.toList.map pairOf)[j]? = some (Value.int .i64 x, enc a0) := by rw [he, List.getElem?_map, h2]; rfl
      rw [List.getElem?_map, Array.getElem?_toList] at h5
      cases h6 : es[j]? with
      | none => rw [h6] at h5; simp at h5
      | some e =>
        rw [h6] at h5
        simp [pairOf] at h5
        exact ⟨e, rfl, h5.1⟩
    obtain ⟨e, he1, he2⟩ := hej
    refine ⟨{ w with heap := w.heap.setIfInBounds b (.map (es.modify j fun e => { e with key := .int .i64 x, val := enc a }) clock) }, ?_, ⟨_, _, (heap_set hb).1, ?_, ?_, ?_, ?_⟩, grown _, by simp⟩
    · simp [Instr.mapUpdate, run_underlying ht, MapKept.run_getObj_map hb, MapKept.run_checkKey hk (key_i64 x), MapKept.run_findKey hk hf, MapKept.run_setObj_map _ hb, Result.andThen, he1, he2, MapKept.run_keyThatStays (key_i64 x)]
    · obtain ⟨s1, s2, s3⟩ := hs
      have k1 : (es.modify j fun e => { e with key := .int .i64 x, val := enc a }).toList.map (·.born) = es.toList.map (·.born) := by
        apply List.ext_getElem?
        intro i
        simp only [List.getElem?_map, Array.getElem?_toList, Array.getElem?_modify]
        by_cases hij : j = i
        · subst hij; rw [if_pos rfl, he1]; rfl
        · rw [if_neg hij]
      have k2 : (es.modify j fun e => { e with key := .int .i64 x, val := enc a }).toList.map (·.key) = es.toList.map (·.key) := by
        apply List.ext_getElem?
        intro i
        simp only [List.getElem?_map, Array.getElem?_toList, Array.getElem?_modify]
        by_cases hij : j = i
        · subst hij; rw [if_pos rfl, he1]; simp [he2]
        · rw [if_neg hij]
      refine ⟨fun y hy => ?_, by rw [k1]; exact s2, by rw [k2]; exact s3⟩
      have : y.born ∈ es.toList.map (·.born) := by rw [← k1]; exact List.mem_map_of_mem hy
      obtain ⟨y', hy', e'⟩ := List.mem_map.1 this
      rw [← e']; exact s1 y' hy'
    · rw [modify_pairs, he, h4, List.map_set]; rfl
    · rw [h4]
      intro p hp
      rcases List.mem_or_eq_of_mem_set hp with hp | rfl
      · exact hw p hp
      · exact hx
    · rw [h4, List.length_set]; exact hm
theorem run_del {ty : TypeId} (h : IMap enc w b m) (ht : P.underlying t = some (.map kt et)) (hk : P.underlying kt = some (.int .i64)) (x : Int) :
    ∃ w', (Builtin.delete_ #[t, kt] ty #[.map (some b), .int .i64 x]).run P w = .ok (.tuple #[]) w' ∧ IMap enc w' b (mdel x m) ∧ w.grownBy w' (some b) ∧ w'.heap.size = w.heap.size := by
  obtain ⟨es, clock, hb, hs, he, hw, hm⟩ := h
  have hf := findNow_map enc x es.toList m 0 he
  have grown : ∀ o, w.grownBy { w with heap := w.heap.setIfInBounds b o } (some b) := fun o => ⟨rfl, rfl, rfl, by simp, fun i _ hi => (heap_set hb).2 i (fun e => hi (by rw [e]))⟩
  cases hi : midx x m 0 with
  | none =>
    have hn := midx_none x m 0 hi
    rw [hi] at hf
    simp only [Option.map_none] at hf
    refine ⟨{ w with heap := w.heap.setIfInBounds b (.map es clock) }, ?_, ⟨_, _, (heap_set hb).1, hs, by rw [mdel_none x m hn]; exact he, by rw [mdel_none x m hn]; exact hw, by rw [mdel_none x m hn]; exact hm⟩, grown _, by simp⟩
    simp [Builtin.delete_, run_underlying ht, MapKept.run_getObj_map hb, MapKept.run_checkKey hk (key_i64 x), MapKept.run_findKey hk hf, MapKept.run_setObj_map _ hb, Result.andThen]
  | some p =>
    obtain ⟨j, a0⟩ := p
    obtain ⟨_, h2, h3⟩ := midx_some x m 0 j a0 hi
    obtain ⟨_, h4⟩ := h3 a0
    simp only [Nat.sub_zero] at h2 h4
    rw [hi] at hf
    simp only [Option.map_some] at hf
    refine ⟨{ w with heap := w.heap.setIfInBounds b (.map (es.eraseIdxIfInBounds j) clock) }, ?_, ⟨_, _, (heap_set hb).1, stamped_erase hs j, ?_, ?_, ?_⟩, grown _, by simp⟩
    · simp [Builtin.delete_, run_underlying ht, MapKept.run_getObj_map hb, MapKept.run_checkKey hk (key_i64 x), MapKept.run_findKey hk hf, MapKept.run_setObj_map _ hb, Result.andThen]
    · have hj : j < es.size := by
        have h5 : (es.toList.map pairOf)[j]? = some (Value.int .i64 x, enc a0) := by rw [he, List.getElem?_map, h2]; rfl
        have := (List.getElem?_eq_some_iff.1 h5).1
        simpa using this
      have h6 : (es.eraseIdxIfInBounds j).toList = es.toList.eraseIdx j := by simp [Array.eraseIdxIfInBounds, hj]
      rw [h6, h4, ChangeMaps.map_eraseIdx, he, ChangeMaps.map_eraseIdx]
    · rw [h4]
      intro p hp
      exact hw p (List.mem_of_mem_eraseIdx hp)
    · rw [h4, List.length_eraseIdx]; split <;> omega
theorem run_maplen (h : IMap enc w b m) (ht : P.underlying t = some (.map kt et)) (ty : TypeId) : (Builtin.len_ #[t] ty #[.map (some b)]).run P w = .ok (.int .i64 m.length) w := by
  obtain ⟨es, clock, hb, hs, he, hw, hm⟩ := h
  have h1 : es.size = m.length := by
    have := congrArg List.length he
    simpa using this
  simp [Builtin.len_, run_underlying ht, MapKept.run_getObj_map hb, Result.andThen, goInt, h1]
end
/-! ### 3. Rows of the call's own: a literal, an append -/
section
variable {α : Type} {P : Program} {ops : Array Oper} {rest : List Oper} {o : Oper} {a : Act} {Q : Exit → Act → World → Prop}
def tt : Nat → Prop := fun _ => True
def ff : Nat → Prop := fun _ => False
/-- 'append(v, x)', behind 'at_builtin'. -/
theorem arm_append (d : Kd α) (w0 : World) {W : World} (hgd : o.guard = none) (s x : Operand) (t e : TypeId) (z : Value) (bytes : Nat)
    (ho : o.op = .call { callee := .builtin .append, args := #[s, x], argTypes := #[t, t] })
    (ht : P.underlying t = some (.slice e)) (hinfo : (P.info? e).map (fun i => (i.zero, i.size, i.bytes)) = some (some z, d.sz, bytes)) (hz : z.cells.size = d.sz) (hs0 : 0 < d.sz) (hb0 : 0 < bytes)
    (v : Value) (xs : List α) (p : α) (cs : List Value) (hs : a.eval s = v) (hx : a.eval x = .slice (some ⟨W.heap.size, 0, none⟩) 1 1)
    (hp : d.M W w0.heap.size ff p cs) (HO : d.R e W w0.heap.size tt v xs) (HB : Below w0.heap.size w0 W) (hl : (xs.length + 1) * bytes ≤ 140737488355328)
    (h : ∀ v1 w1, Aside0 (d.R e w1 w0.heap.size tt v1 (xs ++ [p])) → Aside0 (Below w0.heap.size w0 w1) → Aside0 (W.grownBy w1 v.ownBlock) → wpList P ops Q rest (a.put o.dst v1) w1) :
    wpList P ops Q (o :: rest) a (W.alloc (.cells cs.toArray e)) :=
  Kd.R_append d (w0 := w0) w0.heap.size hgd s x t e z bytes ho ht hinfo hz hs0 hb0 v xs p cs tt ff hs hx hp (fun _ hk => hk.elim) (fun _ _ => trivial) HO HB HB.size hl
    (fun v1 w1 h1 h2 h3 _ => h v1 w1 ⟨h1⟩ ⟨h2⟩ ⟨h3⟩)
theorem R_one (d : Kd α) {W w0 : World} {e : TypeId} {p : α} {cs : List Value} (HB : Below w0.heap.size w0 W) (hp : d.M W w0.heap.size ff p cs) :
    d.R e (W.alloc (.cells cs.toArray e)) w0.heap.size tt (.slice (some ⟨W.heap.size, 0, none⟩) 1 1) [p] := by
  have hl := d.K_len (d.K_of_M hp)
  refine ⟨fun k hk => trivial, cs, ?_, ?_⟩
  · have h2 := World.ownsRow_lit (base := w0.heap.size) (e := e) (size := d.sz) W cs.toArray 1 HB.size (by simp [maxLen]) (by simpa using hl)
    simpa using h2
  · refine ⟨by simpa using hl, fun j q hj => ?_⟩
    have hj0 : j = 0 := by
      have := (List.getElem?_eq_some_iff.1 hj).1
      simp at this; exact this
    subst hj0
    have hq : p = q := by simpa using hj
    subst hq
    have h3 : (cs.drop (0 * d.sz)).take d.sz = cs := by rw [Nat.zero_mul, List.drop_zero, ← hl, List.take_length]
    rw [h3]
    exact d.M_mono (fun k hk => hk.1.elim) (Kd.M_below (d.M_bound hp) (below_alloc (Below.refl _ _) _))
end
/-! ### 4. A row of scalars rewritten in place (the shelf's putRow) -/
section
open Go.Sort
variable {α : Type} [Inhabited α] {enc : α → Value} {h1 : ∀ x, (enc x).oneCell' = true} {e g cap base m : Nat} {w : World} {xs ys : List α}
theorem take_putCells (cur : Array Value) (ts : List α) (h : ts.length ≤ cur.size) : (putCells enc 0 ts.toArray cur).toList.take ts.length = ts.map enc := by
  apply List.ext_getElem?
  intro j
  by_cases hj : j < ts.length
  · rw [List.getElem?_take_of_lt hj, Array.getElem?_toList]
    simp [putCells, hj, show j < cur.size by omega]
  · rw [List.getElem?_take_eq_none (by omega), List.getElem?_eq_none (by simp; omega)]
theorem R_holds (h : (Kd.scalar enc h1).R e w base tt (.slice (some ⟨g, 0, none⟩) xs.length cap) xs) : Holds enc w g 0 xs.toArray := by
  intro j hj
  have hj' : j < xs.length := by simpa using hj
  obtain ⟨h2, h3⟩ := Kd.R_cell (xs[j]'hj') h (j : Int) (by omega) (by omega)
  simp only [Int.toNat_natCast] at h2 h3
  refine ⟨?_, by rw [Nat.zero_add]; exact h3⟩
  rw [Nat.zero_add, h2]
  simp [rdOf, List.getD_eq_getElem?_getD, hj', getElem!_pos]
theorem R_putRow (h : (Kd.scalar enc h1).R e w base tt (.slice (some ⟨g, 0, none⟩) xs.length cap) xs) (hl : ys.length = xs.length) (m : Nat) :
    (Kd.scalar enc h1).R e (putRow enc (Sort.ahead w m) g 0 ys.toArray) base tt (.slice (some ⟨g, 0, none⟩) xs.length cap) ys ∧ w.grownBy (putRow enc (Sort.ahead w m) g 0 ys.toArray) (some g) := by
  have ho := Kd.own_of_R h
  refine ⟨Kd.R_of_own ?_ (fun _ _ => trivial), ⟨rfl, rfl, rfl, by simp, fun k hk hne => ?_⟩⟩
  · obtain ⟨_, h3⟩ := ho
    refine ⟨by simp [encs], ?_⟩
    rcases h3 with ⟨h4, _⟩ | ⟨g', cap', cur, he, hb, hh, hn, hc, hs, ht⟩
    · cases h4
    · injection he with he1 he2 he3
      injection he1 with he1
      injection he1 with he1
      subst he1 he3
      refine .inr ⟨g, cap, putCells enc 0 ys.toArray cur, by rw [hl], hb, ?_, by omega, hc, by simp [putCells, hs], ?_⟩
      · simp [putRow, mapBlock, Sort.ahead, Array.getElem?_modify, hh, onCells]
      · rw [Nat.mul_one, take_putCells cur ys (by omega)]; rfl
  · have : g ≠ k := fun e => hne (by rw [e])
    simp [putRow, mapBlock, Sort.ahead, Array.getElem?_modify, this]
end
/-! ### 5. A range over a map that nobody writes meanwhile -/
section
variable {α : Type} {enc : α → Value} {P : Program} {w : World} {b r : Nat} {m left : List (Int × α)}
def IRange (enc : α → Value) (w : World) (b r : Nat) (m left : List (Int × α)) : Prop :=
  IMap enc w b m ∧ ∃ es clock since seen c0, w.heap[b]? = some (.map es clock) ∧ w.heap[r]? = some (.mapIter (some b) since seen c0) ∧ (∀ x ∈ es.toList, x.born < since) ∧ since ≤ c0 ∧ since ≤ clock ∧
    es.toList.map pairOf = m.map (encP enc) ∧ (leftOf es seen).toList.map pairOf = left.map (encP enc) ∧ (∀ p ∈ left, p ∈ m)
theorem IRange.move {w1 : World} (h : IRange enc w b r m left) (hb : w1.heap[b]? = w.heap[b]?) (hr : w1.heap[r]? = w.heap[r]?) : IRange enc w1 b r m left := by
  obtain ⟨h1, es, clock, since, seen, c0, h2, h3, h4⟩ := h
  exact ⟨h1.move hb, es, clock, since, seen, c0, hb.trans h2, hr.trans h3, h4⟩
theorem IRange.lt (h : IRange enc w b r m left) : r < w.heap.size := by
  obtain ⟨_, es, clock, since, seen, c0, _, h3, _⟩ := h
  exact (Array.getElem?_eq_some_iff.1 h3).1
theorem IRange.ne (h : IRange enc w b r m left) : r ≠ b := by
  obtain ⟨_, es, clock, since, seen, c0, h2, h3, _⟩ := h
  rintro rfl
  rw [h2] at h3
  cases h3
theorem IRange.mem (h : IRange enc w b r m left) : ∀ p ∈ left, p ∈ m := by
  obtain ⟨_, es, clock, since, seen, c0, h2, h3, h4, h5, h6, h7, h8, h9⟩ := h
  exact h9
theorem IRange.below {w1 : World} (h : IRange enc w b r m left) (hb : Below w.heap.size w w1) : IRange enc w1 b r m left := h.move (hb.block b h.1.lt) (hb.block r h.lt)
theorem run_irange {t k e : TypeId} (h : IMap enc w b m) (ht : P.underlying t = some (.map k e)) :
    ∃ o, (Instr.range t (.map (some b))).run P w = .ok (.pointer (some ⟨w.heap.size, 0, none⟩)) (w.alloc o) ∧ IRange enc (w.alloc o) b w.heap.size m m := by
  have h0 := h
  obtain ⟨es, clock, hb, hs, he, hw, hl⟩ := h
  refine ⟨.mapIter (some b) clock #[] clock, run_range_map w t k e b es clock ht hb, h0.move (Below.heap_alloc w _ b h0.lt), es, clock, clock, #[], clock, (Below.heap_alloc w _ b h0.lt).trans hb, heap_alloc_new w _, hs.1, Nat.le_refl _, Nat.le_refl _, he, ?_, fun p hp => hp⟩
  rw [← he]
  congr 1
  simp [leftOf]
def keyIs (x : Int) : Value → Bool
  | .int .i64 y => y == x
  | _ => false
theorem keyIs_iff {x : Int} {v : Value} : keyIs x v = true ↔ v = .int .i64 x := by
  constructor
  · intro h
    unfold keyIs at h
    split at h
    · rw [beq_iff_eq.1 h]
    · cases h
  · rintro rfl
    simp [keyIs]
theorem filter_pairs (x : Int) : ∀ (L : List MapEntry) (left : List (Int × α)), L.map pairOf = left.map (encP enc) →
    (L.filter fun e => !keyIs x e.key).map pairOf = (left.filter fun q => decide (q.1 ≠ x)).map (encP enc)
  | [], [], _ => rfl
  | [], _ :: _, h => by simp at h
  | _ :: _, [], h => by simp at h
  | e :: L, q :: left, h => by
    simp only [List.map_cons, List.cons.injEq] at h
    obtain ⟨h1, h2⟩ := h
    have ih := filter_pairs x L left h2
    simp only [pairOf, encP, Prod.mk.injEq] at h1
    have hk : keyIs x e.key = decide (q.1 = x) := by rw [h1.1]; simp only [keyIs]; exact Bool.eq_iff_iff.2 (by simp)
    by_cases hq : q.1 = x
    · simp only [List.filter_cons, hk, hq, decide_true, Bool.not_true, Bool.false_eq_true, if_false, ne_eq, not_true_eq_false, decide_false]
      exact ih
    · rw [List.filter_cons, if_pos (by rw [hk]; simp [hq]), List.filter_cons, if_pos (by simp [hq]), List.map_cons, List.map_cons, ih]
      simp only [pairOf, encP, h1.1, h1.2]
theorem List.inj_on_of_nodup_map {β γ : Type} {f : β → γ} : ∀ {l : List β}, (l.map f).Nodup → ∀ {x y : β}, x ∈ l → y ∈ l → f x = f y → x = y
  | [], _, _, _, hx, _, _ => by cases hx
  | a :: l, h, x, y, hx, hy, e => by
    simp only [List.map_cons, List.nodup_cons] at h
    rcases List.mem_cons.1 hx with rfl | hx' <;> rcases List.mem_cons.1 hy with rfl | hy'
    · rfl
    · exact absurd (List.mem_map.2 ⟨y, hy', e.symm⟩) h.1
    · exact absurd (List.mem_map.2 ⟨x, hx', e⟩) h.1
    · exact List.inj_on_of_nodup_map h.2 hx' hy' e
theorem wpList_inext {ops : Array Oper} {rest : List Oper} {o : Oper} {a : Act} {Q : Exit → Act → World → Prop} (hg : o.guard = none) (it : Operand) (hop : o.op = Op.next it false) (hit : a.eval it = .pointer (some ⟨r, 0, none⟩)) (h : IRange enc w b r m left)
    (hDone : left = [] → wpList P ops Q rest (a.put o.dst (.tuple #[.bool false])) w)
    (hMore : ∀ (p : Int × α) (w' : World), p ∈ left → Aside0 (IRange enc w' b r m (left.filter fun q => decide (q.1 ≠ p.1))) → Aside0 (w.grownBy w' (some r)) → Aside0 (w'.heap.size = w.heap.size) →
      (Instr.entry (.pointer (some ⟨r, 0, none⟩))).run P w' = .ok (.tuple #[.int .i64 p.1, enc p.2]) w' → wpList P ops Q rest (a.put o.dst (.tuple #[.bool true, .int .i64 p.1, enc p.2])) w') :
    wpList P ops Q (o :: rest) a w := by
  refine wpList_plain hg fun K' hK' => ?_
  unfold Oper.wp
  have hne := h.ne
  obtain ⟨hm, es, clock, since, seen, c0, h2, h3, h4, h5, hsince, h6, h7, h8⟩ := h
  have hnod := hm.nodup
  have hst : Stamped es clock := by
    obtain ⟨es', clock', e1, e2, _⟩ := hm
    rw [h2] at e1
    injection e1 with e1
    injection e1 with e1 e3
    subst e1 e3
    exact e2
  rcases run_next_at (P := P) w o.type r b since c0 seen es clock h3 h2 h4 h5 with ⟨h0, hrun⟩ | ⟨e, he, w1, hw1, hrun⟩
  · have hl : left = [] := by
      have h9 := congrArg List.length h7
      simp only [List.length_map, Array.length_toList, h0] at h9
      exact List.eq_nil_of_length_eq_zero h9.symm
    simp [execOp, hop, hit, hrun, Result.andThen]
    exact hK' _ _ (hDone hl)
  · have hpl : pairOf e ∈ left.map (encP enc) := by rw [← h7]; exact List.mem_map_of_mem he
    obtain ⟨p, hp, hpe⟩ := List.mem_map.1 hpl
    simp only [pairOf, encP, Prod.mk.injEq] at hpe
    have hes : e ∈ es.toList := by
      simp only [leftOf, Array.toList_filter, List.mem_filter] at he
      exact he.1
    have hb1 : w1.heap = w.heap := by rcases hw1 with rfl | rfl <;> rfl
    have hr1 : w1.heap[r]? = some (.mapIter (some b) since seen c0) := by rw [hb1]; exact h3
    have hB : (ChangeMaps.setBlock w1 r (.mapIter (some b) since (seen.push e.born) clock)).heap[b]? = some (.map es clock) := by
      show (w1.heap.setIfInBounds r _)[b]? = _
      rw [(heap_set hr1).2 b (fun e => hne e.symm), hb1]; exact h2
    have hR : (ChangeMaps.setBlock w1 r (.mapIter (some b) since (seen.push e.born) clock)).heap[r]? = some (.mapIter (some b) since (seen.push e.born) clock) := (heap_set hr1).1
    simp [execOp, hop, hit, hrun, Result.andThen]
    refine hK' _ _ ?_
    rw [← hpe.1, ← hpe.2]
    have hmk : es.toList.map (·.key) = m.map fun p => Value.int .i64 p.1 := by
      have := congrArg (List.map Prod.fst) h6
      simpa [pairOf, encP, Function.comp_def] using this
    refine hMore p _ hp ⟨hm.move (hB.trans h2.symm), es, clock, since, seen.push e.born, clock, hB, hR, h4, hsince, hsince, h6, ?_, fun q hq => h8 q (List.mem_filter.1 hq).1⟩ ⟨⟨?_, ?_, ?_, ?_, fun k hk hkr => ?_⟩⟩ ⟨?_⟩ ?_
    · rw [← filter_pairs p.1 _ left h7]
      congr 1
      simp only [leftOf, Array.toList_filter, List.filter_filter]
      refine List.filter_congr fun x hx => ?_
      have hkb : x.born = e.born ↔ x.key = .int .i64 p.1 := by
        rw [hpe.1]
        constructor
        · intro hb'
          have : x = e := List.inj_on_of_nodup_map hst.2.1 hx hes hb'
          rw [this]
        · intro hk'
          have : x = e := List.inj_on_of_nodup_map hst.2.2 hx hes hk'
          rw [this]
      by_cases hxb : x.born = e.born
      · have := keyIs_iff.2 (hkb.1 hxb)
        simp [hxb, this]
      · have : keyIs p.1 x.key = false := by
          cases h : keyIs p.1 x.key
          · rfl
          · exact absurd (hkb.2 (keyIs_iff.1 h)) hxb
        simp [hxb, this]
    · rcases hw1 with rfl | rfl <;> rfl
    · rcases hw1 with rfl | rfl <;> rfl
    · rcases hw1 with rfl | rfl <;> rfl
    · simp [ChangeMaps.setBlock, hb1]
    · show (w1.heap.setIfInBounds r _)[k]? = _
      rw [(heap_set hr1).2 k (fun e => hkr (by rw [e])), hb1]
    · simp [ChangeMaps.setBlock, hb1]
    · rw [hpe.1, hpe.2]
      exact run_entry_at _ r b since seen es clock e hR hB hes hst.2.1
end
/-! ### 6. What a call keeps, told by the types of what it writes -/
def KeepT (w w' : World) (ts : List Nat) : Prop := w.heap.size ≤ w'.heap.size ∧ ∀ (k : Nat) (o : Obj), w.heap[k]? = some o → (∀ (cells : Array Value) (t : Nat) (fr : Nat × Nat), o = Obj.cells cells t fr → t ∉ ts) → w'.heap[k]? = some o
section
variable {w w1 w2 : World} {ts : List Nat}
theorem KeepT.refl (w : World) (ts : List Nat) : KeepT w w ts := ⟨Nat.le_refl _, fun _ _ h _ => h⟩
theorem KeepT.trans (h : KeepT w w1 ts) (k : KeepT w1 w2 ts) : KeepT w w2 ts := ⟨Nat.le_trans h.1 k.1, fun i o ho ht => k.2 i o (h.2 i o ho ht) ht⟩
theorem KeepT.of_below (h : Below w.heap.size w w1) : KeepT w w1 ts := ⟨h.size, fun k o ho _ => (h.block k (blk_lt ho)).trans ho⟩
theorem KeepT.of_set {g t i : Nat} {cs : Array Value} {fr : Nat × Nat} {u : Value} (h : w.heap[g]? = some (.cells cs t fr)) (ht : t ∈ ts) : KeepT w (w.setCell ⟨g, i, none⟩ u) ts :=
  ⟨by simp, fun k o ho hn => (Below.heap_setCell w ⟨g, i, none⟩ u k (by
    intro hkg
    have hkg' : k = g := hkg
    subst hkg'
    rw [h] at ho
    injection ho with ho
    exact hn _ _ _ ho.symm ht)).trans ho⟩
theorem KeepT.of_row {α : Type} {d : Kd α} {e base : Nat} {ok : Nat → Prop} {v : Value} {xs : List α} (hR : d.R e w base ok v xs) (hg : w.grownBy w1 v.ownBlock) (ht : e ∈ ts) : KeepT w w1 ts :=
  ⟨hg.size, fun k o ho hn => (hg.block k (blk_lt ho) (fun he => by
    obtain ⟨inner, h1⟩ := Kd.R_own hR
    obtain ⟨cells, hc⟩ := own_typed h1 k he.symm
    rw [hc] at ho
    injection ho with ho
    exact hn _ _ _ ho.symm ht)).trans ho⟩
theorem KeepT.blk {g t : Nat} {cs : Array Value} (h : KeepT w w1 ts) (hb : w.heap[g]? = some (.cells cs t (0, 0))) (ht : t ∉ ts) : w1.heap[g]? = some (.cells cs t (0, 0)) :=
  h.2 g _ hb (fun _ _ _ he => by injection he with _ he _; exact he ▸ ht)
theorem KeepT.row {α : Type} {d : Kd α} {e base : Nat} {ok : Nat → Prop} {v : Value} {xs : List α} (h : KeepT w w1 ts) (hR : d.R e w base ok v xs) (ht : ∀ q, q ∈ e :: d.E → q ∉ ts) : d.R e w1 base ok v xs :=
  Kd.R_mono (Kd.R_move (Kd.R_bound hR) (fun k hk => by
    obtain ⟨_, _, _, q, hq, cells, hc⟩ := hk
    rw [hc]
    exact h.2 k _ hc (fun _ _ _ he => by injection he with _ he _; exact he ▸ ht q hq))) (fun _ hk => hk.1)
theorem KeepT.imap {α : Type} {enc : α → Value} {b : Nat} {m : List (Int × α)} (h : KeepT w w1 ts) (hI : IMap enc w b m) : IMap enc w1 b m := by
  obtain ⟨es, clock, hb, r⟩ := hI
  exact ⟨es, clock, h.2 b _ hb (fun _ _ _ he => by cases he), r⟩
end
end Go.Proofs.Ytjigjchcmcmbhaa
