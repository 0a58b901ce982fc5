import Derived.Test.YtjigjchcmcmbhaaDedupP
namespace Go.Proofs.Ytjigjchcmcmbhaa
open Go Go.RowKit Go.MapKept Go.Proofs.YtjigjchcmcmbhaaW.PrintWords Go.Proofs.YtjigjchcmcmbhaaW.PrintLast
set_option linter.unusedSimpArgs false
set_option linter.unusedVariables false

/-- A table that has been told well. -/
structure GoodT (m : List (Int × Ans)) : Prop where
  nodup : (m.map Prod.fst).Nodup
  good : ∀ p ∈ m, GoodE p ∧ 1 ≤ p.2.seq ∧ soundB p.2 = true
theorem few_keys : ∀ (n : Nat) (l : List Int), l.Nodup → (∀ x ∈ l, 1 ≤ x ∧ x ≤ n) → l.length ≤ n
  | 0, l, _, h => by
    cases l with
    | nil => simp
    | cons x l => have := h x (by simp); omega
  | n + 1, l, hn, h => by
    by_cases hx : ((n + 1 : Nat) : Int) ∈ l
    · have h1 := few_keys n (l.erase ((n + 1 : Nat) : Int)) (hn.erase _) (fun x hx2 => by
        have h3 := (List.Nodup.mem_erase_iff hn).1 hx2
        have h4 := h x h3.2
        have h5 := h3.1
        omega)
      have h2 := List.length_erase_of_mem hx
      omega
    · have h1 := few_keys n l hn (fun x hx2 => by
        have h4 := h x hx2
        have h5 : x ≠ ((n + 1 : Nat) : Int) := fun e => hx (e ▸ hx2)
        omega)
      omega
theorem GoodT.small {m : List (Int × Ans)} (h : GoodT m) : m.length ≤ 20 := by
  have := few_keys 20 (m.map Prod.fst) h.nodup (fun x hx => by
    obtain ⟨p, hp, rfl⟩ := List.mem_map.1 hx
    have h1 := (h.good p hp).1.1
    simp only [mayB, Bool.and_eq_true, decide_eq_true_eq] at h1
    omega)
  simpa using this
theorem rflag_put (d : Bool) (ys : List Int) : rflag (putI (if d = true then 1 else 0) ++ ys) 0 = (d, ys, 0) := by
  cases d
  · simp [rflag, rnum_put 0 (by rfl)]
  · simp [rflag, rnum_put 1 (by rfl)]
theorem rent_ent (m : List (Int × Ans)) (c : Int) (ys : List Int) (h : fitsB c = true ∧ fitsB (lastA c m).seq = true ∧ fitsB (lastA c m).rev = true ∧ fitsB (lastA c m).code = true) :
    rent (entL m c ++ ys) 0 = (c, lastA c m, ys, 0) := by
  simp only [entL, List.append_assoc, rent, rnum_put c h.1, rnum_put _ h.2.1, rflag_put, rnum_put _ h.2.2.1, rnum_put _ h.2.2.2]
theorem mset_new (c : Int) (a : Ans) : ∀ m : List (Int × Ans), c ∉ m.map Prod.fst → mset c a m = m ++ [(c, a)]
  | [], _ => rfl
  | (y, b) :: r, h => by
    simp only [List.map_cons, List.mem_cons, not_or] at h
    rw [mset, if_neg (fun e => h.1 e.symm), mset_new c a r h.2]
    rfl
theorem mget_in {m : List (Int × Ans)} (hn : (m.map Prod.fst).Nodup) {p : Int × Ans} (hp : p ∈ m) : mget p.1 m = some p.2 := by
  obtain ⟨a, h1, h2⟩ := mget_some m p.1 ⟨p, hp, rfl⟩
  have h3 : p = (p.1, a) := List.inj_on_of_nodup_map hn hp h2 rfl
  rw [h1, h3]
theorem keys_perm (m : List (Int × Ans)) : (keysL m).Perm (m.map Prod.fst) := List.mergeSort_perm _ _
theorem keys_mem {m : List (Int × Ans)} {c : Int} : c ∈ keysL m ↔ ∃ p ∈ m, p.1 = c := by
  rw [(keys_perm m).mem_iff, List.mem_map]
theorem sortI_sorted (l : List Int) : (sortI l).Pairwise (fun x y => x ≤ y) := by
  have := List.pairwise_mergeSort (le := fun x y : Int => decide (x ≤ y)) (fun a b c h1 h2 => by simp only [decide_eq_true_eq] at *; omega) (fun a b => by simp only [Bool.or_eq_true, decide_eq_true_eq]; omega) l
  exact this.imp (fun h => by simpa using h)
theorem sortI_idem (l : List Int) : sortI (sortI l) = sortI l := by
  have := (sortI_sorted l).imp (S := fun x y => decide (x ≤ y) = true) (fun h => by simpa using h)
  exact List.mergeSort_of_pairwise this
def ent (m : List (Int × Ans)) (c : Int) : Int × Ans := (c, lastA c m)
theorem loop_keys (m : List (Int × Ans)) (hm : GoodT m) : ∀ (l : List Int) (acc : List (Int × Ans)), (∀ c ∈ l, ∃ p ∈ m, p.1 = c) → l.Nodup → (∀ c ∈ l, c ∉ acc.map Prod.fst) →
    decLoop l.length (l.flatMap (entL m)) 0 acc = some (acc ++ l.map (ent m), 0)
  | [], acc, _, _, _ => by simp [decLoop]
  | c :: l, acc, hin, hn, hd => by
    obtain ⟨p, hp, hpc⟩ := hin c (by simp)
    have hg := good_last m (fun p hp => (hm.good p hp).1) c ⟨p, hp, hpc⟩
    have hl : lastA c m = p.2 := by subst hpc; simp [lastA, mget_in hm.nodup hp]
    obtain ⟨h1, h2, h3⟩ := hm.good p hp
    have hok : entOk c (lastA c m) 0 = true := by
      rw [hl]
      subst hpc
      simp [entOk, h1.1, h2, h3]
    rw [List.length_cons, List.flatMap_cons, decLoop, rent_ent m c _ hg]
    simp only [hok, if_true]
    have hn2 := List.nodup_cons.1 hn
    rw [mset_new c _ acc (hd c (by simp)), loop_keys m hm l (acc ++ [(c, lastA c m)]) (fun x hx => hin x (by simp [hx])) hn2.2 (fun x hx => by
      have h4 := hd x (by simp [hx])
      have h5 : x ≠ c := fun e => hn2.1 (e ▸ hx)
      simp only [List.map_append, List.mem_append, not_or]
      exact ⟨h4, by simpa using h5⟩)]
    simp [ent]
def canon (m : List (Int × Ans)) : List (Int × Ans) := (keysL m).map (ent m)
theorem mget_ent (m : List (Int × Ans)) (c : Int) : ∀ l : List Int, c ∈ l → mget c (l.map (ent m)) = some (lastA c m)
  | [], h => by cases h
  | x :: l, h => by
    simp only [List.map_cons, ent, mget]
    by_cases e : x = c
    · rw [if_pos e, e]
    · rw [if_neg e]
      exact mget_ent m c l (by rcases List.mem_cons.1 h with h | h; exact absurd h.symm e; exact h)
theorem last_canon {m : List (Int × Ans)} {c : Int} (h : c ∈ keysL m) : lastA c (canon m) = lastA c m := by
  rw [lastA, canon, mget_ent m c _ h]; rfl
theorem keys_canon (m : List (Int × Ans)) : keysL (canon m) = keysL m := by
  have : (canon m).map Prod.fst = keysL m := by simp [canon, ent, Function.comp_def]
  rw [keysL, this]
  exact sortI_idem _
theorem len_canon (m : List (Int × Ans)) : (canon m).length = m.length := by simp [canon, keysL, sortI]
theorem flat_congr {f g : Int → List Int} : ∀ l : List Int, (∀ x ∈ l, f x = g x) → l.flatMap f = l.flatMap g
  | [], _ => rfl
  | x :: l, h => by rw [List.flatMap_cons, List.flatMap_cons, h x (by simp), flat_congr l (fun y hy => h y (by simp [hy]))]
theorem enc_canon (m : List (Int × Ans)) : encT (canon m) = encT m := by
  rw [encT, encT, len_canon, keys_canon]
  congr 1
  exact flat_congr _ (fun c hc => by simp only [entL, last_canon hc])
theorem many_enc {m : List (Int × Ans)} (hm : GoodT m) : rmany 20 (encT m) 0 = ((m.length : Int), (keysL m).flatMap (entL m), 0) := by
  have h1 := hm.small
  have h2 : fitsB (m.length : Int) = true := by simp [fitsB]; omega
  rw [rmany, encT, rnum_put _ h2, if_neg (by simp; omega)]
theorem keys_len (m : List (Int × Ans)) : (keysL m).length = m.length := by simp [keysL, sortI]
/-- A table is read as it was written. -/
theorem dec_enc {m : List (Int × Ans)} (hm : GoodT m) : decT (encT m) = some (canon m) := by
  rw [decT, many_enc hm]
  have h1 := loop_keys m hm (keysL m) [] (fun c hc => keys_mem.1 hc) ((keys_perm m).nodup_iff.2 hm.nodup) (by simp)
  rw [keys_len] at h1
  simp only [Int.toNat_natCast, h1, List.nil_append, decFin]
  rw [if_pos ⟨trivial, enc_canon m⟩]
  rfl
/-- Cut short it is none. -/
theorem dec_cut {m : List (Int × Ans)} (hm : GoodT m) (k : Nat) (hk : k < (encT m).length) : decT ((encT m).take k) = none := by
  cases h : decT ((encT m).take k) with
  | none => rfl
  | some m2 =>
    obtain ⟨h1, h2⟩ := dec_ext ((encT m).drop k) h
    rw [List.take_append_drop] at h2
    have h3 := dec_enc hm
    rw [decT, h2, decFin] at h3
    split at h3
    · rename_i h4
      have h5 := congrArg List.length (h4.2.symm.trans h1)
      rw [List.length_take] at h5
      omega
    · cases h3
/-- Longer it is none. -/
theorem dec_long {m : List (Int × Ans)} (hm : GoodT m) (x : Int) : decT (encT m ++ [x]) = none := by
  obtain ⟨h1, h2⟩ := dec_ext [x] (dec_enc hm)
  rw [decT, h2, decFin, if_neg]
  rintro ⟨_, h3⟩
  have h4 := congrArg List.length (h1.symm.trans h3)
  simp at h4
theorem eq_canon {m : List (Int × Ans)} (hm : GoodT m) : eqM m (canon m) = true := by
  simp only [eqM, Bool.and_eq_true, beq_iff_eq, List.all_eq_true]
  refine ⟨(len_canon m).symm, fun p hp => ?_⟩
  have h1 : p.1 ∈ keysL m := keys_mem.2 ⟨p, hp, rfl⟩
  have h2 : lastA p.1 m = p.2 := by simp [lastA, mget_in hm.nodup hp]
  simp only [hasA, last_canon h1, Bool.and_eq_true]
  exact ⟨by rw [canon, mget_ent m _ _ h1]; rfl, ansEq_iff.2 h2.symm⟩
theorem keys_up {m : List (Int × Ans)} (hm : GoodT m) : (keysL m).Pairwise (fun x y => x < y) := by
  have h1 := sortI_sorted (m.map Prod.fst)
  have h2 : (keysL m).Nodup := (keys_perm m).nodup_iff.2 hm.nodup
  exact (List.pairwise_and_iff.2 ⟨h1, h2⟩).imp (fun h => by have := h.1; have := h.2; omega)
theorem mset_keys (c : Int) (a : Ans) : ∀ (m : List (Int × Ans)) (x : Int), x ∈ (mset c a m).map Prod.fst ↔ x = c ∨ x ∈ m.map Prod.fst
  | [], x => by simp [mset]
  | (y, b) :: r, x => by
    unfold mset
    split
    · rename_i h
      subst h
      simp
    · simp only [List.map_cons, List.mem_cons, mset_keys c a r x]
      constructor
      · rintro (h | h | h) <;> simp [h]
      · rintro (h | h | h) <;> simp [h]
theorem mset_nodup (c : Int) (a : Ans) : ∀ m : List (Int × Ans), (m.map Prod.fst).Nodup → ((mset c a m).map Prod.fst).Nodup
  | [], _ => by simp [mset]
  | (y, b) :: r, h => by
    unfold mset
    rw [List.map_cons, List.nodup_cons] at h
    split
    · rename_i e
      subst e
      rw [List.map_cons, List.nodup_cons]
      exact h
    · rename_i e
      rw [List.map_cons, List.nodup_cons]
      refine ⟨fun hx => ?_, mset_nodup c a r h.2⟩
      rcases (mset_keys c a r y).1 hx with h1 | h1
      · exact e h1
      · exact h.1 h1
theorem GoodT.mset {m : List (Int × Ans)} (h : GoodT m) {c : Int} {a : Ans} (h1 : GoodE (c, a)) (h2 : 1 ≤ a.seq) (h3 : soundB a = true) : GoodT (Go.Proofs.Ytjigjchcmcmbhaa.mset c a m) :=
  ⟨mset_nodup c a m h.nodup, fun p hp => by
    rcases mset_mem c a m p hp with hp | rfl
    · exact h.good p hp
    · exact ⟨h1, h2, h3⟩⟩
theorem mget_mset (c d : Int) (a : Ans) : ∀ m : List (Int × Ans), mget d (Go.Proofs.Ytjigjchcmcmbhaa.mset c a m) = if d = c then some a else mget d m
  | [] => by simp only [Go.Proofs.Ytjigjchcmcmbhaa.mset, mget]; by_cases h : c = d <;> simp [h, eq_comm]
  | (y, b) :: r => by
    have ih := mget_mset c d a r
    unfold Go.Proofs.Ytjigjchcmcmbhaa.mset
    split
    · rename_i e
      subst e
      simp only [mget]
      by_cases h : y = d
      · simp [h]
      · rw [if_neg h, if_neg h, if_neg (fun e => h e.symm)]
    · rename_i e
      simp only [mget, ih]
      by_cases h : y = d
      · subst h
        simp [e]
      · simp [h]
theorem last_mset (c d : Int) (a : Ans) (m : List (Int × Ans)) : lastA d (Go.Proofs.Ytjigjchcmcmbhaa.mset c a m) = if d = c then a else lastA d m := by
  rw [lastA, mget_mset]
  split <;> rfl
end Go.Proofs.Ytjigjchcmcmbhaa
