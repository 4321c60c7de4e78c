/- Part of the proof of a law: contracts of the functions that the law reaches, or plain laws of them, out of the abstract layer (the texts YtcgphoghmgeecaaIso..). No condition. -/
import Derived.Test.YtcgphoghmgeecaaLcheck
import Derived.Test.YtcgphoghmgeecaaPd
namespace Go.Proofs.Ytcgphoghmgeecaa
open Go Go.Iso Go.Proofs
set_option linter.unusedSimpArgs false
set_option linter.unusedVariables false
set_option maxRecDepth 100000
/-! ### Check -/
def checkS (n : NodeA) (s : Int) : Int :=
  if decide (s < 1) || decide (3 < s) then 1 else if decide ((n.size : Int) ≤ 4000) && decide ((n.lev : Int) ≤ 60) then (if sortS n.op != s then 80 else if !okS n false false false then 3 else 0) else 2
theorem tree_Check_eq {K : Nat} {n : NodeA} {s : Int} (hK : 12 < K) (hK2 : 2 * n.size ≤ K) (hb : n.size ≤ big) : tree_Check K n s = some (checkS n s) := by
  unfold tree_Check checkS
  simp only [orO, Option.bind_some]
  cases hs : (decide (s < 1) || decide (3 < s)) with
  | true => rfl
  | false =>
    simp only [Bool.false_eq_true, if_false, Option.bind_some, Out.fin_go]
    obtain ⟨r, hr, hw⟩ := tree_within_eq (show n.size ≤ K by omega) hb
    rw [hr]
    simp only [Option.bind_some]
    unfold Within at hw
    by_cases hc : (n.size : Int) ≤ 4000 ∧ (n.lev : Int) ≤ 60
    · rw [if_pos hc] at hw
      subst hw
      rw [decide_eq_true hc.1, decide_eq_true hc.2]
      simp only [Bool.not_true, Bool.false_eq_true, if_false, tree_Sort_eq, Option.bind_some, Bool.and_self, if_true]
      by_cases h2 : sortS n.op = s
      · have e : (sortS n.op != s) = false := by simp [h2]
        have h0 : sortS n.op ≠ 0 := by rw [h2]; intro hz; subst hz; revert hs; decide
        rw [e]
        simp only [Bool.false_eq_true, if_false]
        have : tree_formed K n (Tree_placeA.mk false false false) = some (okS n false false false) := formed_iter hK K n ⟨false, false, false⟩ (by omega) (by omega) hb h0
        rw [this]
        simp only [Option.bind_some]
        cases okS n false false false <;> rfl
      · have e : (sortS n.op != s) = true := by simp [h2]
        rw [e]; rfl
    · rw [if_neg hc] at hw
      rw [hw]
      have : (decide ((n.size : Int) ≤ 4000) && decide ((n.lev : Int) ≤ 60)) = false := by
        rw [Bool.and_eq_false_iff, decide_eq_false_iff_not, decide_eq_false_iff_not]
        by_cases h1 : (n.size : Int) ≤ 4000
        · exact .inr fun h2 => hc ⟨h1, h2⟩
        · exact .inl h1
      rw [this]; rfl
theorem r08_well_eq {K : Nat} {n : NodeA} {s : Int} (hK : 12 < K) (hK2 : 2 * n.size ≤ K) (hb : n.size ≤ big) (hw : n.words) (hs : s ≠ 0) : r08_well K n s false false = some (sortS n.op == s && okS n false false false) :=
  (well_iter hK K).1 n s false false hK2 hK2 hb hw hs
theorem r08_Check_eq {K : Nat} {n : NodeA} {s : Int} (hK : 12 < K) (hK2 : 2 * n.size ≤ K) (hb : n.size ≤ big) (hw : n.words) : r08_Check K n s = some (checkS n s) := by
  unfold r08_Check checkS
  simp only [orO, Option.bind_some]
  cases hs : (decide (s < 1) || decide (3 < s)) with
  | true => rfl
  | false =>
    simp only [Bool.false_eq_true, if_false, r08_Size_eq (show n.size ≤ K by omega) hb, r08_Levels_eq (show n.size ≤ K by omega) hb, Option.bind_some, orO]
    by_cases hc : (n.size : Int) ≤ 4000 ∧ (n.lev : Int) ≤ 60
    · have e1 : decide ((4000 : Int) < (n.size : Int)) = false := by simp; omega
      have e2 : decide ((60 : Int) < (n.lev : Int)) = false := by simp; omega
      rw [e1, e2, decide_eq_true hc.1, decide_eq_true hc.2]
      simp only [Bool.or_self, Bool.false_eq_true, if_false, r08_Sort_eq, Option.bind_some, Bool.and_self, if_true]
      by_cases h2 : sortS n.op = s
      · have e : (sortS n.op != s) = false := by simp [h2]
        have e' : (sortS n.op == s) = true := by simp [h2]
        have h0 : s ≠ 0 := by intro hz; subst hz; revert hs; decide
        rw [e]
        simp only [Bool.false_eq_true, if_false, r08_well_eq hK hK2 hb hw h0, Option.bind_some, e', Bool.true_and]
        cases okS n false false false <;> rfl
      · have e : (sortS n.op != s) = true := by simp [h2]
        rw [e]; rfl
    · have : (decide ((n.size : Int) ≤ 4000) && decide ((n.lev : Int) ≤ 60)) = false := by
        rw [Bool.and_eq_false_iff, decide_eq_false_iff_not, decide_eq_false_iff_not]
        by_cases h1 : (n.size : Int) ≤ 4000
        · exact .inr fun h2 => hc ⟨h1, h2⟩
        · exact .inl h1
      have e : (decide ((4000 : Int) < (n.size : Int)) || decide ((60 : Int) < (n.lev : Int))) = true := by
        rw [Bool.or_eq_true, decide_eq_true_eq, decide_eq_true_eq]
        by_cases h1 : (n.size : Int) ≤ 4000
        · exact .inr (by have : ¬ (n.lev : Int) ≤ 60 := fun h2 => hc ⟨h1, h2⟩; omega)
        · exact .inl (by omega)
      rw [this, e]; rfl
def rootS (n : NodeA) : Int := if sortS n.op == 0 || sortS n.op == 4 then 80 else checkS n (sortS n.op)
theorem static_check_eq {K : Nat} {n : NodeA} (hK : 12 < K) (hK2 : 2 * n.size ≤ K) (hb : n.size ≤ big) : static_check K n = some (rootS n) := by
  unfold static_check rootS
  simp only [tree_Sort_eq, Option.bind_some, orO]
  cases (sortS n.op == 0 || sortS n.op == 4) with
  | true => rfl
  | false => simp only [Bool.false_eq_true, if_false, Option.bind_some, Out.fin_go, tree_Check_eq hK hK2 hb]
theorem r10_check_eq {K : Nat} {n : NodeA} (hK : 12 < K) (hK2 : 2 * n.size ≤ K) (hb : n.size ≤ big) (hw : n.words) : r10_check K n = some (rootS n) := by
  unfold r10_check rootS
  simp only [r08_Sort_eq, Option.bind_some, orO]
  cases (sortS n.op == 0 || sortS n.op == 4) with
  | true => rfl
  | false => simp only [Bool.false_eq_true, if_false, Option.bind_some, Out.fin_go, r08_Check_eq hK hK2 hb hw]
theorem rootS_ok {n : NodeA} (h : rootS n = 0) : okS n false false false = true ∧ sortS n.op ≠ 0 := by
  unfold rootS at h
  cases hs : (sortS n.op == 0 || sortS n.op == 4) with
  | true => rw [hs] at h; cases h
  | false =>
    rw [hs] at h
    simp only [Bool.false_eq_true, if_false] at h
    have h0 : sortS n.op ≠ 0 := by intro hz; rw [hz] at hs; revert hs; decide
    refine ⟨?_, h0⟩
    unfold checkS at h
    revert h
    cases (decide (sortS n.op < 1) || decide (3 < sortS n.op)) <;> cases (decide ((n.size : Int) ≤ 4000) && decide ((n.lev : Int) ≤ 60)) <;> cases hq : (sortS n.op != sortS n.op) <;> cases okS n false false false <;> simp

/-! ### Polarity -/
/-- A node of a well-formed tree. -/
def Fine (n : NodeA) : Prop := ∃ d fd fl, okS n d fd fl = true
theorem fine_kid {n k : NodeA} (h : Fine n) (hk : k ∈ n.kids) : Fine k := by
  obtain ⟨d, fd, fl, h⟩ := h
  rw [okS_eq] at h
  simp only [Bool.and_eq_true, List.all_eq_true] at h
  exact ⟨_, _, _, h.2.2.2.2.1 k hk⟩
theorem fine_imp {n : NodeA} (h : Fine n) (h31 : n.op = 31) : n.kids.length = 2 := by
  obtain ⟨d, fd, fl, h⟩ := h
  rw [okS_eq] at h
  simp only [Bool.and_eq_true] at h
  have := congrArg List.length (eq_of_beq h.2.2.2.1)
  rw [List.length_map] at this
  rw [this]; unfold sortsC; rw [h31]; rfl
/-- The sign behind a step. -/
theorem sign_eq {op x s : Int} (h : op = 31 → x = 0 ∨ x = 1) :
    (if (op == 28 || op == 31 && x == 0) then IntKind.wrap .i64 (0 - s) else if (op == 29 || (op == 30 || (op == 31 || (op == 33 || op == 34)))) then s else if (op == 35 && x == 1 || !(op == 35) && (op == 36 && x == 1)) then s else 0) =
    (if (op == 29 || (op == 30 || (op == 33 || (op == 34 || op == 31 && x == 1)))) then s else if (op == 35 && x == 1 || !(op == 35) && (op == 36 && x == 1)) then s else if (op == 28 || op == 31) then IntKind.wrap .i64 (0 - s) else 0) := by
  by_cases h31 : op = 31
  · subst h31
    rcases h rfl with rfl | rfl <;> rfl
  · have e31 : (op == 31) = false := by simpa using h31
    rw [e31]
    simp only [Bool.false_and, Bool.or_false, Bool.false_or]
    by_cases h28 : op = 28
    · subst h28; simp
    · have e28 : (op == 28) = false := by simpa using h28
      rw [e28]; simp
theorem pol_eq {K : Nat} {n : NodeA} {p : List Int} (hK : 12 < K) (hK2 : 2 * n.size ≤ K) (hKp : p.length < K) (hp : p.length ≤ 9223372036854775807) (hb : n.size ≤ big) (hw : n.words) : ∃ r, static_Polarity K n p = some r ∧ r10_Polarity K n p = some r := by
  unfold static_Polarity r10_Polarity
  simp only [static_check_eq hK hK2 hb, r10_check_eq hK hK2 hb hw, Option.bind_some, tree_Sort_eq, r08_Sort_eq]
  by_cases h0 : rootS n = 0
  · have e0 : (rootS n != 0) = false := by simp [h0]
    rw [e0]
    simp only [Bool.false_eq_true, if_false]
    by_cases h2 : sortS n.op = 2
    · have e2 : (sortS n.op != 2) = false := by simp [h2]
      rw [e2]
      simp only [Bool.false_eq_true, if_false]
      have hf : Fine n := ⟨_, _, _, (rootS_ok h0).1⟩
      have fin : ∀ {o : Option (Out (Int × NodeA) (Int × Int))}, (∃ q, o = some q) → ∃ r, o.bind (Out.fin fun x => match x with | (e8_0, e8_1) => if (sortS e8_1.op != 2) = true then some (0, 80) else some (e8_0, 0)) = some r := by
        rintro o ⟨q, rfl⟩
        cases q with
        | go s => obtain ⟨s1, s2⟩ := s; simp only [Option.bind_some, Out.fin_go]; split <;> exact ⟨_, rfl⟩
        | out r => exact ⟨_, rfl⟩
      refine Exists.imp (fun r hr => ⟨hr, (congrArg (fun o => Option.bind o _) ?_).trans hr⟩) (fin ?_)
      · symm
        refine iter_congr (fun (s : Int × Int × NodeA) => Fine s.2.2) (fun s hs g g' hg => ?_) K _ hf
        obtain ⟨s0, s1, x⟩ := s
        simp only at hs ⊢
        simp only [orO, andO, Option.bind_some]
        cases decide (s1 < (p.length : Int)) with
        | false => rfl
        | true =>
          simp only [if_true]
          cases hx : idx p s1 with
          | none => rfl
          | some z =>
            simp only [Option.bind_some]
            cases hz : (decide (z < 0) || decide ((x.kids.length : Int) ≤ z)) with
            | true => rfl
            | false =>
              simp only [Bool.false_eq_true, if_false, Option.bind_some, Out.fin_go]
              have hzr : 0 ≤ z ∧ z < x.kids.length := by
                rw [Bool.or_eq_false_iff, decide_eq_false_iff_not, decide_eq_false_iff_not] at hz; omega
              have hs31 : x.op = 31 → z = 0 ∨ z = 1 := fun h31 => by have := fine_imp hs h31; omega
              simp only [ifOB, ifOI, Option.bind_some]
              rw [sign_eq hs31]
              have hxk : ∃ y, idx x.kids z = some y ∧ y ∈ x.kids := by
                obtain ⟨k, rfl⟩ : ∃ k : Nat, z = k := ⟨z.toNat, by omega⟩
                rw [idx_nat]
                have hk : k < x.kids.length := by omega
                exact ⟨_, List.getElem?_eq_getElem hk, List.getElem_mem hk⟩
              obtain ⟨y, hy, hym⟩ := hxk
              rw [hy]
              simp only [Option.bind_some, Out.fin_go]
              exact hg _ (fine_kid hs hym)
      · refine iter_some (fun (s : Int × Int × NodeA) => ∃ i : Nat, s.2.1 = i) (fun s => p.length - s.2.1.toNat) (fun s hs g hg => ?_) K _ ⟨0, rfl⟩ (by show p.length - 0 < K; omega)
        obtain ⟨s0, s1, x⟩ := s
        obtain ⟨i, hi⟩ := hs
        simp only at hi
        subst hi
        simp only [orO, andO, Option.bind_some]
        by_cases hl : i < p.length
        · have hd : decide ((i : Int) < (p.length : Int)) = true := by simp; omega
          simp only [hd, if_true, idx_nat, List.getElem?_eq_getElem hl, Option.bind_some]
          generalize p[i] = z
          cases hz : (decide (z < 0) || decide ((x.kids.length : Int) ≤ z)) with
          | true => exact ⟨_, rfl⟩
          | false =>
            simp only [Bool.false_eq_true, if_false, Option.bind_some, Out.fin_go, ifOB, ifOI]
            have hzr : 0 ≤ z ∧ z < x.kids.length := by
              rw [Bool.or_eq_false_iff, decide_eq_false_iff_not, decide_eq_false_iff_not] at hz; omega
            obtain ⟨k, rfl⟩ : ∃ k : Nat, z = k := ⟨z.toNat, by omega⟩
            have hk : k < x.kids.length := by omega
            simp only [idx_nat, List.getElem?_eq_getElem hk, Option.bind_some, Out.fin_go]
            rw [w64s (by omega)]
            exact hg _ ⟨i + 1, rfl⟩ (show p.length - ((i + 1 : Nat) : Int).toNat < p.length - ((i : Nat) : Int).toNat by omega)
        · have hd : decide ((i : Int) < (p.length : Int)) = false := by simp; omega
          simp only [hd, Bool.false_eq_true, if_false]
          exact ⟨_, rfl⟩
    · have e2 : (sortS n.op != 2) = true := by simp [h2]
      rw [e2]; exact ⟨_, rfl, rfl⟩
  · have e0 : (rootS n != 0) = true := by simp [h0]
    rw [e0]; exact ⟨_, rfl, rfl⟩
/-- The law. -/
theorem polarity_law {n : NodeA} {p : List Int} (hp : p.length ≤ 9223372036854775807) (hb : n.size ≤ big) (hw : n.words) : ∃ K, law10_StaticPolarity K n p = some true := by
  refine ⟨2 * n.size + p.length + 13, ?_⟩
  obtain ⟨r, h1, h2⟩ := pol_eq (K := 2 * n.size + p.length + 13) (n := n) (p := p) (by omega) (by omega) (by omega) hp hb hw
  unfold law10_StaticPolarity law10_awake
  simp only [Option.bind_some, Bool.not_true, Bool.false_eq_true, if_false, r08_Size_eq (show n.size ≤ 2 * n.size + p.length + 13 by omega) hb, h1, h2]
  have e1 : (r.2 == r.2) = true := by simp
  have e2 : (r.1 == r.1) = true := by simp
  rw [e1, e2]
  cases decide ((4000 : Int) < (n.size : Int)) <;> rfl
end Go.Proofs.Ytcgphoghmgeecaa
