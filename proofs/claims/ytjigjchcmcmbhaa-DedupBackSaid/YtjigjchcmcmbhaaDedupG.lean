import Derived.Test.YtjigjchcmcmbhaaDedupE
namespace Go.Proofs.Ytjigjchcmcmbhaa
open Go Go.RowKit Go.MapKept Go.Proofs.YtjigjchcmcmbhaaW.PrintWords Go.Proofs.YtjigjchcmcmbhaaW.PrintLast
set_option linter.unusedSimpArgs false
set_option linter.unusedVariables false

def m1 : List (Int × Ans) := [(3, ⟨1, true, 7, 0⟩)]
theorem aw_tell (w : World) (g b : Nat) (h : TbAt w g b []) :
    Calls Try.prog 8 #[.pointer (some ⟨g, 0, none⟩), .int .i64 3, .agg #[.int .i64 1, .bool true, .int .i64 7, .int .i64 0]] w fun e w' => e = .returned (.int .i64 0) ∧ TbAt w' g b m1 ∧ KeepO w w' b :=
  tell_ok w g b [] 3 ⟨1, true, 7, 0⟩ h rfl rfl rfl ⟨by decide, by decide⟩ (by decide) (by simp)
theorem aw_ask (w : World) (g b : Nat) (h : TbAt w g b m1) :
    Calls Try.prog 13 #[.pointer (some ⟨g, 0, none⟩), .int .i64 3, .int .i64 1] w fun e w' => e = .returned (.tuple #[.agg #[.int .i64 1, .bool true, .int .i64 7, .int .i64 0], .bool true, .int .i64 0]) ∧ Below w.heap.size w w' :=
  ask_again w g b m1 3 1 h rfl (by decide) rfl
theorem aw_far (w : World) (g b : Nat) (h : TbAt w g b m1) :
    Calls Try.prog 13 #[.pointer (some ⟨g, 0, none⟩), .int .i64 3, .int .i64 3] w fun e w' => e = .returned (.tuple #[.agg #[.int .i64 0, .bool false, .int .i64 0, .int .i64 0], .bool false, .int .i64 16]) ∧ Below w.heap.size w w' :=
  ask_far w g b m1 3 3 h rfl (by decide) (by decide) (by rw [show (lastA 3 m1).seq = 1 from rfl]; unfold wrap64; omega)
theorem aw_last (w : World) (g b : Nat) (h : TbAt w g b m1) :
    Calls Try.prog 7 #[.pointer (some ⟨g, 0, none⟩), .int .i64 3] w fun e w' => e = .returned (.int .i64 1) ∧ w = w' := last_calls w g b m1 3 h
theorem aw_last4 (w : World) (g b : Nat) (h : TbAt w g b m1) :
    Calls Try.prog 7 #[.pointer (some ⟨g, 0, none⟩), .int .i64 4] w fun e w' => e = .returned (.int .i64 0) ∧ w = w' := last_calls w g b m1 4 h
theorem aw_bad (w : World) (g b : Nat) (h : TbAt w g b m1) :
    Calls Try.prog 8 #[.pointer (some ⟨g, 0, none⟩), .int .i64 0, .agg #[.int .i64 1, .bool true, .int .i64 7, .int .i64 0]] w fun e w' => e = .returned (.int .i64 1) ∧ Below w.heap.size w w' := tell_bad w g b m1 0 ⟨1, true, 7, 0⟩ h rfl
theorem tb_below {w w1 : World} {g b : Nat} {m : List (Int × Ans)} (h : TbAt w g b m) (hb : Below w.heap.size w w1) : TbAt w1 g b m := ⟨blk_below h.1 hb, h.2.below hb⟩

set_option maxRecDepth 100000 in
theorem awake_calls (w : World) : Calls Try.prog 4 #[] w fun e w' => e = .returned (.bool true) ∧ Below w.heap.size w w' := by
  go_enter Try.func4, Try.ntmps4
  go_wp2_with (first
    | (go_at_call 5; refine (new_calls _).mono ?_; rintro q1 w1 ⟨g, b, rfl, hg0, hb0, hT, hB⟩; have hT := Aside0.mk hT; have hB := Aside0.mk hB)
    | (go_at_call 8; refine (aw_tell _ g b hT.out).mono ?_; rintro q2 w2 ⟨rfl, hT2, hK2⟩; have hT2 := Aside0.mk hT2; have hK2 := Aside0.mk hK2)
    | (go_at_call 13; have hh := hT2.out; clear hT2; refine (aw_ask _ g b hh).mono ?_; rintro q3 w3 ⟨rfl, hB3⟩; have hT3 := Aside0.mk (tb_below hh hB3); have hB3 := Aside0.mk hB3))
  have hT4 : TbAt _ g b m1 := tb_below hT3.out (below_alloc (Below.refl _ _) (.cells #[.int .i64 1, .bool true, .int .i64 7, .int .i64 0] 29))
  refine (aw_far _ g b hT4).mono ?_
  rintro q4 w4 ⟨rfl, hB4⟩
  have hA4 := blk_below (blk_below (blk_new w3 (.cells #[.int .i64 1, .bool true, .int .i64 7, .int .i64 0] 29)) hB4) (below_alloc (Below.refl _ _) (.cells #[.int .i64 0, .bool false, .int .i64 0, .int .i64 0] 29))
  have hT5 := Aside0.mk (tb_below (tb_below hT4 hB4) (below_alloc (Below.refl _ _) (.cells #[.int .i64 0, .bool false, .int .i64 0, .int .i64 0] 29)))
  have hT6 := hT5
  have hT7 := hT5
  have hc0 := (blk_cell hA4 0).trans rfl
  have hc1 := (blk_cell hA4 1).trans rfl
  have hc2 := (blk_cell hA4 2).trans rfl
  have hc3 := (blk_cell hA4 3).trans rfl
  have hB4 := Aside0.mk hB4
  have HB0 : Aside0 (Below w.heap.size w w3) := ⟨(hB.out.trans (hK2.out.2.mono hb0)).trans (hB3.out.mono (Nat.le_trans hB.out.size hK2.out.1.1))⟩
  clear hA4 hT4
  go_wp2_with (first
    | (go_at_call 7; have hh := hT5.out; clear hT5; refine (aw_last _ g b hh).mono ?_; rintro q5 w5 ⟨rfl, rfl⟩)
    | (go_at_call 7; have hh := hT6.out; clear hT6; refine (aw_last4 _ g b hh).mono ?_; rintro q6 w6 ⟨rfl, rfl⟩)
    | (go_at_call 8; have hh := hT7.out; clear hT7; refine (aw_bad _ g b hh).mono ?_; rintro q7 w7 ⟨rfl, hB7⟩; have hB7 := Aside0.mk hB7))
  go_ret
  refine ⟨rfl, ?_⟩
  have h1 := below_then HB0.out HB0.out.size (below_alloc (Below.refl _ _) (.cells #[.int .i64 1, .bool true, .int .i64 7, .int .i64 0] 29))
  have h2 := below_then h1 h1.size hB4.out
  have h3 := below_then h2 h2.size (below_alloc (Below.refl _ _) (.cells #[.int .i64 0, .bool false, .int .i64 0, .int .i64 0] 29))
  exact below_then h3 h3.size hB7.out
end Go.Proofs.Ytjigjchcmcmbhaa
