import Derived.Test.YtjigjchcmcmbhaaDedupB
import Derived.Test.YtjigjchcmcmbhaaWEqStruct
namespace Go.Proofs.Ytjigjchcmcmbhaa
open Go Go.RowKit Go.MapKept Go.Proofs.YtjigjchcmcmbhaaW.PrintWords Go.Proofs.YtjigjchcmcmbhaaW.PrintLast
set_option linter.unusedSimpArgs false
set_option linter.unusedVariables false

theorem eqAns (d : Nat) (w : World) (x0 y0 : Int) (x1 y1 : Bool) (x2 y2 : Int) (x3 y3 : Int) :
    (Op.equalIn (d + 2) 29 (.agg #[.int .i64 x0, .bool x1, .int .i64 x2, .int .i64 x3]) (.agg #[.int .i64 y0, .bool y1, .int .i64 y2, .int .i64 y3])).run Try.prog w = .ok (x0 == y0 && (x1 == y1 && (x2 == y2 && (x3 == y3)))) w := by
  refine eqA_of Try.underlying29 (by kernel_rfl) ?_
  refine eqf_cons (by rfl) (by go_simp; rfl) (by go_simp; rfl) (by go_simp) ?_
  refine eqf_cons (by rfl) (by go_simp; rfl) (by go_simp; rfl) (by go_simp) ?_
  refine eqf_cons (by rfl) (by go_simp; rfl) (by go_simp; rfl) (by go_simp) ?_
  exact eqf_last (by rfl) (by go_simp; rfl) (by go_simp; rfl) (by go_simp)
def ansEq (x y : Ans) : Bool := x.seq == y.seq && (x.done == y.done && (x.rev == y.rev && (x.code == y.code)))
theorem ansEq_iff {x y : Ans} : ansEq x y = true ↔ x = y := by
  obtain ⟨a, b, c, d⟩ := x
  obtain ⟨a', b', c', d'⟩ := y
  simp [ansEq]
theorem neqAns (x0 y0 : Int) (x1 y1 : Bool) (x2 y2 : Int) (x3 y3 : Int) (w : World) :
    (binOp .neq 29 (.agg #[.int .i64 x0, .bool x1, .int .i64 x2, .int .i64 x3]) (.agg #[.int .i64 y0, .bool y1, .int .i64 y2, .int .i64 y3])).run Try.prog w = .ok (.bool (!ansEq ⟨x0, x1, x2, x3⟩ ⟨y0, y1, y2, y3⟩)) w := by
  simp [binOp, Op.equal, Op.maxDepth, eqAns 9998 w x0 y0 x1 y1 x2 y2 x3 y3, Result.andThen, ansEq]
theorem look_ok (w : World) (b : Nat) (m : List (Int × Ans)) (h : IMap encA w b m) (c : Int) :
    (Instr.lookup 41 (.map (some b)) (.int .i64 c) true).run Try.prog w = .ok (.tuple #[.agg #[.int .i64 (lastA c m).seq, .bool (lastA c m).done, .int .i64 (lastA c m).rev, .int .i64 (lastA c m).code], .bool (mget c m).isSome]) w := by
  rw [run_look_ok h Try.underlying41 Try.underlying3 (Try.zeroValue29 w) c]
  unfold lastA
  cases mget c m <;> rfl
def hasA (m : List (Int × Ans)) (p : Int × Ans) : Bool := (mget p.1 m).isSome && ansEq p.2 (lastA p.1 m)
def eqM (m1 m2 : List (Int × Ans)) : Bool := (m1.length == m2.length) && m1.all (hasA m2)
def EqPost (m1 m2 : List (Int × Ans)) (w : World) (e : Ending) (w' : World) : Prop := e = .returned (.bool (eqM m1 m2)) ∧ Below w.heap.size w w'
set_option maxRecDepth 100000 in
theorem mequal_calls (w : World) (b1 b2 : Nat) (m1 m2 : List (Int × Ans)) (h1 : IMap encA w b1 m1) (h2 : IMap encA w b2 m2) :
    Calls Try.prog 25 #[.map (some b1), .map (some b2)] w (EqPost m1 m2 w) := by
  have hl1 := fun ty => run_maplen (P := Try.prog) h1 Try.underlying41 ty
  have hl2 := fun ty => run_maplen (P := Try.prog) h2 Try.underlying41 ty
  have H1 := Aside0.mk h1
  have H2 := Aside0.mk h2
  have hm1 := h1.len
  have hm2 := h2.len
  clear h1 h2
  by_cases hlen : m1.length = m2.length
  · have hne : ((m1.length : Int) != (m2.length : Int)) = false := by simp [hlen]
    have HLen := Aside0.mk hlen
    obtain ⟨o, hrr, hI⟩ := run_irange (P := Try.prog) H1.out Try.underlying41
    have HI := Aside0.mk hI
    clear hI hlen
    go_enter Try.func25, Try.ntmps25
    go_wp2
    go_loopg [] m1.length (fun gk wr => ∃ left : List (Int × Ans), left.length ≤ gk ∧ Aside0 (IRange encA wr b1 w.heap.size m1 left) ∧ Aside0 (Below w.heap.size w wr) ∧ Aside0 (∀ p ∈ m1, p ∉ left → hasA m2 p = true))
    case atStart => exact ⟨m1, Nat.le_refl _, HI, ⟨below_alloc (Below.refl _ _) _⟩, ⟨fun p hp hn => absurd hp hn⟩⟩
    case round =>
      obtain ⟨left, hle, hIR, hB, hD⟩ := hrel
      go_wp2_with (at_next; refine wpList_inext rfl _ rfl (by rfl) hIR.out ?_ ?_)
      · intro hnil
        have hres : Aside0 (eqM m1 m2 = true) := ⟨by
          have h1 := hD.out
          rw [hnil] at h1
          simp only [eqM, Bool.and_eq_true, beq_iff_eq, List.all_eq_true]
          exact ⟨HLen.out, fun p hp => h1 p hp (by simp)⟩⟩
        clear hnil
        go_wp2
        go_ret
        exact ⟨by rw [hres.out]; rfl, hB.out⟩
      · rintro c ⟨sq, dn, rv, cd⟩ w1 hp hIR1 hg1 hsz1 hen
        simp only [encA] at hen ⊢
        have hpA := Aside0.mk hp
        clear hp
        have hB1 : Aside0 (Below w.heap.size w w1) := ⟨hB.out.grown hg1.out hB.out.size (by rintro k ⟨⟩; exact Nat.le_refl _)⟩
        have hI2 : Aside0 (IMap encA w1 b2 m2) := ⟨H2.out.move (hB1.out.block b2 H2.out.lt)⟩
        have hlk := look_ok (w1.alloc (.cells #[.int .i64 sq, .bool dn, .int .i64 rv, .int .i64 cd] 29)) b2 m2 (hI2.out.below (below_alloc (Below.refl _ _) _)) c
        have hnq := neqAns
        have hha : Aside0 (hasA m2 (c, ⟨sq, dn, rv, cd⟩) = ((mget c m2).isSome && ansEq ⟨sq, dn, rv, cd⟩ (lastA c m2))) := ⟨rfl⟩
        have hno : hasA m2 (c, ⟨sq, dn, rv, cd⟩) = false → eqM m1 m2 = false := fun h1 => by
          have h2 : (c, (⟨sq, dn, rv, cd⟩ : Ans)) ∈ m1 := by
            exact hIR.out.mem _ hpA.out
          simp only [eqM]
          cases h3 : m1.all (hasA m2)
          · simp
          · rw [List.all_eq_true.1 h3 _ h2] at h1
            cases h1
        have HNo := Aside0.mk hno
        clear hno
        cases hsm : (mget c m2).isSome with
        | false =>
          have hsn : (mget c m2).isNone = true := by cases h : mget c m2 <;> simp_all
          go_wp2
          go_ret
          exact ⟨by rw [HNo.out (by rw [hha.out, hsm]; rfl)]; rfl, (hB1.out.alloc hB1.out.size _).alloc (by have := hB1.out.size; simp; omega) _⟩
        | true =>
          have hsn : (mget c m2).isNone = false := by cases h : mget c m2 <;> simp_all
          cases hae : ansEq ⟨sq, dn, rv, cd⟩ ⟨(lastA c m2).seq, (lastA c m2).done, (lastA c m2).rev, (lastA c m2).code⟩ with
          | false =>
            go_wp2
            go_ret
            exact ⟨by rw [HNo.out (by rw [hha.out, hsm]; exact hae)]; rfl, (hB1.out.alloc hB1.out.size _).alloc (by have := hB1.out.size; simp; omega) _⟩
          | true =>
            have hyes : Aside0 (hasA m2 (c, ⟨sq, dn, rv, cd⟩) = true) := ⟨by rw [hha.out, hsm]; exact hae⟩
            have hlt : Aside0 ((left.filter fun q => decide (q.1 ≠ c)).length < left.length) := ⟨by
              rcases Nat.lt_or_ge (left.filter fun q => decide (q.1 ≠ c)).length left.length with h | h
              · exact h
              · have h1 := List.length_filter_eq_length_iff.1 (Nat.le_antisymm (List.length_filter_le _ left) h)
                have h2 := h1 _ hpA.out
                simp at h2⟩
            go_wp2
            go_roundg (gk - 1)
            case measure => have := hlt.out; omega
            case rel =>
              refine ⟨_, by have := hlt.out; simp only [ne_eq, decide_not] at this; omega, ⟨hIR1.out.below (below_alloc (below_alloc (Below.refl _ _) _) _)⟩, ⟨(hB1.out.alloc hB1.out.size _).alloc (by have := hB1.out.size; simp; omega) _⟩, ⟨fun p hp hn => ?_⟩⟩
              by_cases hpc : p.1 = c
              · have h1 := hIR1.out.1.nodup
                have h2 : (c, (⟨sq, dn, rv, cd⟩ : Ans)) ∈ m1 := by
                  exact hIR.out.mem _ hpA.out
                have h3 : p = (c, ⟨sq, dn, rv, cd⟩) := List.inj_on_of_nodup_map h1 hp h2 hpc
                rw [h3]; exact hyes.out
              · refine hD.out p hp (fun hl => hn ?_)
                exact List.mem_filter.2 ⟨hl, by simpa using hpc⟩
  · have hne : ((m1.length : Int) != (m2.length : Int)) = true := by simp; omega
    have HR : Aside0 (eqM m1 m2 = false) := ⟨by simp [eqM, hlen]⟩
    clear hlen
    go_enter Try.func25, Try.ntmps25
    go_wp2
    go_ret
    exact ⟨by rw [HR.out]; rfl, Below.refl _ _⟩
end Go.Proofs.Ytjigjchcmcmbhaa
