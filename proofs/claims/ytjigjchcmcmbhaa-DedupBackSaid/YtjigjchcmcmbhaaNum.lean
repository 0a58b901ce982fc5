import Derived.Test.YtjigjchcmcmbhaaBase
import Derived.Test.YtjigjchcmcmbhaaLayA
namespace Go.Proofs.Ytjigjchcmcmbhaa
open Go Go.RowKit Go.MapKept Go.Proofs.YtjigjchcmcmbhaaW.PrintWords
set_option linter.unusedSimpArgs false
set_option linter.unusedVariables false

/-! ### num -/
theorem info_u8 : (Try.prog.info? 5).map (fun i => (i.zero, i.size, i.bytes)) = some (some (.int .u8 0), 1, 1) := by kernel_rfl
def fitsB (n : Int) : Bool := decide (0 ≤ n) && decide (n ≤ 1099511627776)
theorem fits_calls (n : Int) (w : World) : Calls Try.prog 28 #[.int .i64 n] w fun e w' => e = .returned (.bool (fitsB n)) ∧ w = w' := by
  by_cases h : 0 ≤ n
  · go_enter Try.func28, Try.ntmps28
    go_wp2
    go_ret
    exact ⟨by simp [fitsB]; omega, rfl⟩
  · go_enter Try.func28, Try.ntmps28
    go_wp2
    go_ret
    exact ⟨by simp [fitsB]; omega, rfl⟩
def putTail (n : Nat) : List Int := if h : n = 0 then [] else ((n % 128 + 128 : Nat) : Int) :: putTail (n / 128)
termination_by n
decreasing_by omega
theorem putTail_zero : putTail 0 = [] := by rw [putTail]; simp
theorem putTail_pos (n : Nat) (h : 0 < n) : putTail n = ((n : Int) % 128 + 128) :: putTail (n / 128) := by rw [putTail, dif_neg (by omega)]; simp
def putL (n : Nat) : List Int := (((n : Int) % 128) :: putTail (n / 128)).reverse
theorem put_no (n : Int) (w : World) (h : fitsB n = false) : Calls Try.prog 29 #[.int .i64 n] w fun e w' => e = .returned (.slice none 0 0) ∧ w = w' := by
  go_enter Try.func29, Try.ntmps29
  go_wp2
  refine wp_scope_all (fun _ _ _ => False) (fun _ _ _ => 0) (fun _ _ _ h => h.elim) fun _ => ?_
  go_wp2_with (go_at_call 28; refine (fits_calls _ _).mono ?_; rintro e w' ⟨rfl, rfl⟩)
  simp only [jumps_ret]
  go_ret
  exact ⟨rfl, rfl⟩
theorem rev_u8 (xs : List Int) (v : Value) (base : Nat) (w : World) (hp : 0 < xs.length) (hR : (Kd.int .u8).R 5 w base tt v xs) :
    Calls Try.prog 36 #[v] w fun e w' => e = .returned (.tuple #[]) ∧ (Kd.int .u8).R 5 w' base tt v xs.reverse ∧ w.grownBy w' v.ownBlock := by
  obtain ⟨g, cap, rfl, _⟩ := Kd.R_form hR hp
  have hC := (Kd.R_reads' hR).2.2
  have h := AnyE.slices_Reverse Try.revL (Value.int .u8) (fun _ => rfl) g 0 cap xs w (R_holds hR) (Kd.C_max hC)
  refine Calls.mono h ?_
  rintro e w' ⟨rfl, n, rfl⟩
  obtain ⟨h2, h3⟩ := R_putRow (ys := xs.reverse) hR (by simp) n
  exact ⟨rfl, h2, h3⟩
def PutInv (n : Nat) (w : World) (l : Nat) (a' : Act) (w' : World) : Prop :=
  l = 0 ∧ ∃ (m : Nat) (acc : List Int) (v : Value), m ≤ n ∧ (acc.length + m ≤ 1099511627778) ∧ Aside0 ((acc ++ putTail (m / 128)).reverse = putL n) ∧ Aside0 ((Kd.int .u8).R 5 w' w.heap.size tt v acc) ∧ Aside0 (Below w.heap.size w w') ∧ ∃ u1 u3 u4 u5 u6 u7 u8 u9 u10 u11 u12 u13 u14 u15 u16 u17 u18 u19 u20 u21 u22 u23 : Value, a' = { tmps := #[.int .i64 m, u1, v, u3, u4, u5, u6, u7, u8, u9, u10, u11, u12, u13, u14, u15, u16, u17, u18, u19, u20, u21, u22, u23], defers := [] }
set_option maxRecDepth 100000 in
theorem put_yes (n : Nat) (w : World) (h : fitsB n = true) (hn : n ≤ 1099511627776) : Calls Try.prog 29 #[.int .i64 n] w fun e w' => ∃ v, e = .returned v ∧ (Kd.int .u8).R 5 w' w.heap.size tt v (putL n) ∧ Below w.heap.size w w' := by
  go_enter Try.func29, Try.ntmps29
  go_wp2
  refine wp_scope_all (PutInv n w) (fun _ a' _ => (intOf (a'.tmps.getD 0 undef)).toNat) ?_ ?_
  · rintro l a' w' ⟨rfl, m, acc, v, hm, hlm, hacc, hR, hB, u1, u3, u4, u5, u6, u7, u8, u9, u10, u11, u12, u13, u14, u15, u16, u17, u18, u19, u20, u21, u22, u23, rfl⟩
    refine ⟨_, rfl, ?_⟩
    by_cases hz : m < 128
    · have hf : decide (0 < (m : Int) / 128) = false := by simp; omega
      have hne : Aside0 (0 < acc.length) := ⟨by
        rcases acc with _ | ⟨x, r⟩
        · have h1 := hacc.out
          have h2 := congrArg List.length h1
          rw [show m / 128 = 0 by omega, putTail_zero] at h2
          simp [putL] at h2
        · simp⟩
      go_wp2_with (go_at_call 36; refine (rev_u8 acc v _ _ hne.out hR.out).mono ?_; rintro e w1 ⟨rfl, hR1, hg1⟩; have hR2 := Aside0.mk hR1; clear hR1; have hg2 := Aside0.mk hg1; clear hg1)
      simp only [jumps_ret]
      go_ret
      have h3 : putL n = acc.reverse := by
        have h1 := hacc.out
        rw [show m / 128 = 0 by omega, putTail_zero, List.append_nil] at h1
        exact h1.symm
      refine ⟨v, rfl, by rw [h3]; exact hR2.out, ?_⟩
      exact hB.out.grown hg2.out hB.out.size (Kd.R_base hR.out)
    · go_wp2_with (first | (at_builtin; refine arm_append (Kd.int .u8) w rfl _ _ _ _ _ _ rfl Try.underlying32 info_u8 rfl (by decide) (by decide) v acc _ _ rfl rfl rfl hR.out hB.out (by omega) ?_; intro v1 w1 hR1 hB1 _))
      go_step3
      simp only [Exit.then]
      refine ⟨⟨rfl, m / 128, acc ++ [(m : Int) / 128 % 128 + 128], v1, by omega, by simp; omega, ⟨?_⟩, hR1, hB1, _, _, _, _, _, _, _, _, _, _, _, _, _, _, _, _, _, _, _, _, _, _, rfl⟩, ?_⟩
      · rw [← hacc.out, putTail_pos (m / 128) (by omega)]
        simp
      · simp [intOf]; omega
  · intro hp
    go_wp2_with (first | (go_at_call 28; refine (fits_calls _ _).mono ?_; rintro e w' ⟨rfl, rfl⟩))
    go_step3
    simp only [Exit.then]
    rename_i hK
    refine hK _ _ ?_
    refine hp 0 _ _ _ rfl ⟨rfl, n, [(n : Int) % 128], _, Nat.le_refl _, by simp; omega, ⟨by simp [putL]⟩, ⟨?_⟩, ⟨?_⟩, _, _, _, _, _, _, _, _, _, _, _, _, _, _, _, _, _, _, _, _, _, _, rfl⟩
    · exact R_one (Kd.int .u8) (Below.refl _ _) rfl
    · exact below_alloc (Below.refl _ _) _

def getL : List Int → Nat → Int → Int × Int × Int
  | [], _, _ => (0, 0, 2)
  | c :: r, i, n => if (i = 0 ∧ c = 128) ∨ 8589934592 < n then (0, 0, 2) else
      if c < 128 then (if fitsB (n * 128 + c % 128) then (n * 128 + c % 128, (i : Int) + 1, 0) else (0, 0, 2)) else getL r (i + 1) (n * 128 + c % 128)
def V3 (p : Int × Int × Int) : Value := .tuple #[.int .i64 p.1, .int .i64 p.2.1, .int .i64 p.2.2]
theorem get_calls (A : Option Addr) (c : Nat) (xs : List Int) (w : World) (h : (Kd.int .u8).C w A xs.length xs) (hb : ∀ x ∈ xs, 0 ≤ x ∧ x ≤ 255) :
    Calls Try.prog 32 #[.slice A xs.length c] w fun e w' => e = .returned (V3 (getL xs 0 0)) ∧ w = w' := by
  have hm := Kd.C_max h
  have HC := Aside0.mk h
  have HB := Aside0.mk hb
  clear h hb
  go_enter Try.func32, Try.ntmps32
  go_wp2
  refine wp_scope_all (fun l a' w' => (l = 0 ∧ w = w' ∧ Aside0 (getL xs 0 0 = (0, 0, 2)) ∧ ∃ u1 u2 u3 u4 u5 u6 u7 u8 u9 u10 u11 u12 u13 u14 u15 u16 u17 u18 u19 u20 u21 u22 u23 u24 u25 u26 u27 u28 u29 u30 u31 u32 u33 u34 u35 u36 u37 u38 u39 : Value, a' = { tmps := #[.slice A xs.length c, u1, u2, u3, u4, u5, u6, u7, u8, u9, u10, u11, u12, u13, u14, u15, u16, u17, u18, u19, u20, u21, u22, u23, u24, u25, u26, u27, u28, u29, u30, u31, u32, u33, u34, u35, u36, u37, u38, u39], defers := [] }) ∨ (l = 1 ∧ ∃ n u : Int, w = w' ∧ 0 ≤ n ∧ n ≤ 1099511627776 + 255 ∧ Aside0 (getL xs 0 0 = if fitsB n then (n, u, 0) else (0, 0, 2)) ∧ ∃ u0 u1 u4 u5 u6 u7 u8 u9 u10 u11 u12 u13 u14 u15 u16 u17 u18 u19 u20 u21 u22 u23 u24 u25 u26 u27 u28 u29 u30 u31 u32 u33 u34 u35 u36 u37 u38 u39 : Value, a' = { tmps := #[u0, u1, .int .i64 n, .int .i64 u, u4, u5, u6, u7, u8, u9, u10, u11, u12, u13, u14, u15, u16, u17, u18, u19, u20, u21, u22, u23, u24, u25, u26, u27, u28, u29, u30, u31, u32, u33, u34, u35, u36, u37, u38, u39], defers := [] }))
    (fun l _ _ => 1 - l) ?_ ?_
  · rintro l a' w' (⟨rfl, rfl, hg, u1, u2, u3, u4, u5, u6, u7, u8, u9, u10, u11, u12, u13, u14, u15, u16, u17, u18, u19, u20, u21, u22, u23, u24, u25, u26, u27, u28, u29, u30, u31, u32, u33, u34, u35, u36, u37, u38, u39, rfl⟩ | ⟨rfl, n, u, rfl, h0, h1, hg, u0, u1, u4, u5, u6, u7, u8, u9, u10, u11, u12, u13, u14, u15, u16, u17, u18, u19, u20, u21, u22, u23, u24, u25, u26, u27, u28, u29, u30, u31, u32, u33, u34, u35, u36, u37, u38, u39, rfl⟩)
    · refine ⟨_, rfl, ?_⟩
      go_wp2
      simp only [jumps_ret]
      go_ret3
      rw [hg.out]
      exact ⟨rfl, rfl⟩
    · refine ⟨_, rfl, ?_⟩
      by_cases hf : fitsB n = true
      · go_wp2_with (go_at_call 28; refine (fits_calls _ _).mono ?_; rintro e w' ⟨rfl, rfl⟩)
        simp only [jumps_ret]
        go_ret3
        rw [hg.out, if_pos hf]
        exact ⟨rfl, rfl⟩
      · have hf' : fitsB n = false := by simpa using hf
        go_wp2_with (go_at_call 28; refine (fits_calls _ _).mono ?_; rintro e w' ⟨rfl, rfl⟩)
        simp only [jumps_ret]
        go_ret3
        rw [hg.out, if_neg hf]
        exact ⟨rfl, rfl⟩
  · intro hp
    go_wp2
    go_loop [2, 3, 9] (fun n u i => ∃ (k : Nat) (m : Int), k ≤ xs.length ∧ i = .int .i64 k ∧ n = .int .i64 m ∧ u = .int .i64 0 ∧ 0 ≤ m ∧ m ≤ 1099511627776 + 255 ∧ Aside0 (getL xs 0 0 = getL (xs.drop k) k m)) (fun _ _ i => xs.length - (intOf i).toNat)
    case atStart => exact ⟨0, 0, Nat.zero_le _, rfl, rfl, rfl, Int.le_refl _, by omega, ⟨rfl⟩⟩
    case round =>
      obtain ⟨k, m, hk, rfl, rfl, rfl, h0, h1, hg⟩ := hrel
      by_cases hlt : k < xs.length
      · obtain ⟨ad, rfl, hcell⟩ := Kd.at_int HC.out (k : Int) (by omega) (by omega)
        have hx := HB.out (xs[k]) (List.getElem_mem hlt)
        have hrd : rd xs (k : Int) = xs[k] := by simp [rd, hlt]
        rw [hrd] at hcell
        have hdrop : Aside0 (xs.drop k = xs[k] :: xs.drop (k + 1)) := ⟨List.drop_eq_getElem_cons hlt⟩
        generalize xs[k] = y at hcell hx hdrop
        simp only [Int.toNat_natCast] at hcell
        obtain ⟨hx0, hx1⟩ := hx
        have hstep : Aside0 (getL (xs.drop k) k m = if (k = 0 ∧ y = 128) ∨ 8589934592 < m then (0, 0, 2) else
            if y < 128 then (if fitsB (m * 128 + y % 128) then (m * 128 + y % 128, (k : Int) + 1, 0) else (0, 0, 2)) else getL (xs.drop (k + 1)) (k + 1) (m * 128 + y % 128)) := ⟨by rw [hdrop.out]; rfl⟩
        clear hdrop
        by_cases hbad : (k = 0 ∧ y = 128) ∨ 8589934592 < m
        · have hres : Aside0 (getL xs 0 0 = (0, 0, 2)) := ⟨by rw [hg.out, hstep.out, if_pos hbad]⟩
          clear hstep hg
          by_cases hk0 : k = 0
          · have hk' : ((k : Int) == 0) = true := by simpa using hk0
            clear hk0
            by_cases hy : y = 128
            · subst hy
              go_wp2
              go_step3
              simp only [Exit.then, Exit.inBlock]
              exact .inl ⟨rfl, rfl, hres, _, _, _, _, _, _, _, _, _, _, _, _, _, _, _, _, _, _, _, _, _, _, _, _, _, _, _, _, _, _, _, _, _, _, _, _, _, _, _, rfl⟩
            · have hy' : (y == 128) = false := by simpa using hy
              have hbig : 8589934592 < m := by rcases hbad with ⟨_, h⟩ | h; exact absurd h hy; exact h
              clear hbad hy
              go_wp2
              go_step3
              simp only [Exit.then, Exit.inBlock]
              exact .inl ⟨rfl, rfl, hres, _, _, _, _, _, _, _, _, _, _, _, _, _, _, _, _, _, _, _, _, _, _, _, _, _, _, _, _, _, _, _, _, _, _, _, _, _, _, _, rfl⟩
          · have hbig : 8589934592 < m := by omega
            have hk' : ((k : Int) == 0) = false := by simpa using hk0
            clear hbad
            go_wp2
            go_step3
            simp only [Exit.then, Exit.inBlock]
            exact .inl ⟨rfl, rfl, hres, _, _, _, _, _, _, _, _, _, _, _, _, _, _, _, _, _, _, _, _, _, _, _, _, _, _, _, _, _, _, _, _, _, _, _, _, _, _, _, rfl⟩
        · have hbig : m ≤ 8589934592 := by omega
          by_cases hy : y < 128
          · have hres : Aside0 (getL xs 0 0 = if fitsB (m * 128 + y % 128) then (m * 128 + y % 128, (k : Int) + 1, 0) else (0, 0, 2)) := ⟨by rw [hg.out, hstep.out, if_neg hbad, if_pos hy]⟩
            clear hstep hg hbad
            have hy' : (y == 128) = false := by simp; omega
            by_cases hk0 : k = 0
            · have hk' : ((k : Int) == 0) = true := by simpa using hk0
              clear hk0
              go_wp2
              go_step3
              simp only [Exit.then, Exit.inBlock]
              exact .inr ⟨rfl, _, _, rfl, by omega, by omega, hres, _, _, _, _, _, _, _, _, _, _, _, _, _, _, _, _, _, _, _, _, _, _, _, _, _, _, _, _, _, _, _, _, _, _, _, _, _, _, rfl⟩
            · have hk' : ((k : Int) == 0) = false := by simpa using hk0
              go_wp2
              go_step3
              simp only [Exit.then, Exit.inBlock]
              exact .inr ⟨rfl, _, _, rfl, by omega, by omega, hres, _, _, _, _, _, _, _, _, _, _, _, _, _, _, _, _, _, _, _, _, _, _, _, _, _, _, _, _, _, _, _, _, _, _, _, _, _, _, rfl⟩
          · have hres : Aside0 (getL xs 0 0 = getL (xs.drop (k + 1)) (k + 1) (m * 128 + y % 128)) := ⟨by rw [hg.out, hstep.out, if_neg hbad, if_neg hy]⟩
            clear hstep hg
            by_cases hk0 : k = 0
            · have hk' : ((k : Int) == 0) = true := by simpa using hk0
              have hy' : (y == 128) = false := by simp; omega
              clear hbad hk0
              go_wp2
              go_round
              case rel => exact ⟨k + 1, m * 128 + y % 128, by omega, by go_num, rfl, rfl, by omega, by omega, hres⟩
              case measure => simp [intOf]; omega
            · have hk' : ((k : Int) == 0) = false := by simpa using hk0
              clear hbad
              go_wp2
              go_round
              case rel => exact ⟨k + 1, m * 128 + y % 128, by omega, by go_num, rfl, rfl, by omega, by omega, hres⟩
              case measure => simp [intOf]; omega
      · go_wp2
        go_step3
        simp only [Exit.then]
        rename_i hK _
        refine hK _ _ ?_
        refine hp 0 _ _ _ rfl (.inl ⟨rfl, rfl, ⟨?_⟩, _, _, _, _, _, _, _, _, _, _, _, _, _, _, _, _, _, _, _, _, _, _, _, _, _, _, _, _, _, _, _, _, _, _, _, _, _, _, _, rfl⟩)
        rw [hg.out, List.drop_of_length_le (by omega)]
        rfl
end Go.Proofs.Ytjigjchcmcmbhaa
