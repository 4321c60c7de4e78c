/- Part of the proof of a law: contracts of the functions that the law reaches, or plain laws of them, out of the abstract layer (the texts YtngmfimpaembnaaGreatDoorIso..). No condition. -/
import Derived.Test.YtngmfimpaembnaaGreatDoorLcheck
namespace Go.Proofs.YtngmfimpaembnaaGreatDoor
open Go Go.Iso Go.Proofs
set_option linter.unusedSimpArgs false
set_option linter.unusedVariables false
set_option maxRecDepth 100000
/-! ### Check -/
def checkS (n : NodeA) (s : Int) : Int :=
  if decide (s < 1) || decide (3 < s) then 1 else if decide ((n.size : Int) ≤ 4000) && decide ((n.lev : Int) ≤ 60) then (if sortS n.op != s then 80 else if !okS n false false false then 3 else 0) else 2
theorem tree_Check_eq {K : Nat} {n : NodeA} {s : Int} (hK : 12 < K) (hK2 : 2 * n.size ≤ K) (hb : n.size ≤ big) : tree_Check K n s = some (checkS n s) := by
  unfold tree_Check checkS
  simp only [orO, Option.bind_some]
  cases hs : (decide (s < 1) || decide (3 < s)) with
  | true => rfl
  | false =>
    simp only [Bool.false_eq_true, if_false, Option.bind_some, Out.fin_go]
    obtain ⟨r, hr, hw⟩ := tree_within_eq (show n.size ≤ K by omega) hb
    rw [hr]
    simp only [Option.bind_some]
    unfold Within at hw
    by_cases hc : (n.size : Int) ≤ 4000 ∧ (n.lev : Int) ≤ 60
    · rw [if_pos hc] at hw
      subst hw
      rw [decide_eq_true hc.1, decide_eq_true hc.2]
      simp only [Bool.not_true, Bool.false_eq_true, if_false, tree_Sort_eq, Option.bind_some, Bool.and_self, if_true]
      by_cases h2 : sortS n.op = s
      · have e : (sortS n.op != s) = false := by simp [h2]
        have h0 : sortS n.op ≠ 0 := by rw [h2]; intro hz; subst hz; revert hs; decide
        rw [e]
        simp only [Bool.false_eq_true, if_false]
        have : tree_formed K n (Tree_placeA.mk false false false) = some (okS n false false false) := formed_iter hK K n ⟨false, false, false⟩ (by omega) (by omega) hb h0
        rw [this]
        simp only [Option.bind_some]
        cases okS n false false false <;> rfl
      · have e : (sortS n.op != s) = true := by simp [h2]
        rw [e]; rfl
    · rw [if_neg hc] at hw
      rw [hw]
      have : (decide ((n.size : Int) ≤ 4000) && decide ((n.lev : Int) ≤ 60)) = false := by
        rw [Bool.and_eq_false_iff, decide_eq_false_iff_not, decide_eq_false_iff_not]
        by_cases h1 : (n.size : Int) ≤ 4000
        · exact .inr fun h2 => hc ⟨h1, h2⟩
        · exact .inl h1
      rw [this]; rfl
theorem r08_well_eq {K : Nat} {n : NodeA} {s : Int} (hK : 12 < K) (hK2 : 2 * n.size ≤ K) (hb : n.size ≤ big) (hw : n.words) (hs : s ≠ 0) : r08_well K n s false false = some (sortS n.op == s && okS n false false false) :=
  (well_iter hK K).1 n s false false hK2 hK2 hb hw hs
theorem r08_Check_eq {K : Nat} {n : NodeA} {s : Int} (hK : 12 < K) (hK2 : 2 * n.size ≤ K) (hb : n.size ≤ big) (hw : n.words) : r08_Check K n s = some (checkS n s) := by
  unfold r08_Check checkS
  simp only [orO, Option.bind_some]
  cases hs : (decide (s < 1) || decide (3 < s)) with
  | true => rfl
  | false =>
    simp only [Bool.false_eq_true, if_false, r08_Size_eq (show n.size ≤ K by omega) hb, r08_Levels_eq (show n.size ≤ K by omega) hb, Option.bind_some, orO]
    by_cases hc : (n.size : Int) ≤ 4000 ∧ (n.lev : Int) ≤ 60
    · have e1 : decide ((4000 : Int) < (n.size : Int)) = false := by simp; omega
      have e2 : decide ((60 : Int) < (n.lev : Int)) = false := by simp; omega
      rw [e1, e2, decide_eq_true hc.1, decide_eq_true hc.2]
      simp only [Bool.or_self, Bool.false_eq_true, if_false, r08_Sort_eq, Option.bind_some, Bool.and_self, if_true]
      by_cases h2 : sortS n.op = s
      · have e : (sortS n.op != s) = false := by simp [h2]
        have e' : (sortS n.op == s) = true := by simp [h2]
        have h0 : s ≠ 0 := by intro hz; subst hz; revert hs; decide
        rw [e]
        simp only [Bool.false_eq_true, if_false, r08_well_eq hK hK2 hb hw h0, Option.bind_some, e', Bool.true_and]
        cases okS n false false false <;> rfl
      · have e : (sortS n.op != s) = true := by simp [h2]
        rw [e]; rfl
    · have : (decide ((n.size : Int) ≤ 4000) && decide ((n.lev : Int) ≤ 60)) = false := by
        rw [Bool.and_eq_false_iff, decide_eq_false_iff_not, decide_eq_false_iff_not]
        by_cases h1 : (n.size : Int) ≤ 4000
        · exact .inr fun h2 => hc ⟨h1, h2⟩
        · exact .inl h1
      have e : (decide ((4000 : Int) < (n.size : Int)) || decide ((60 : Int) < (n.lev : Int))) = true := by
        rw [Bool.or_eq_true, decide_eq_true_eq, decide_eq_true_eq]
        by_cases h1 : (n.size : Int) ≤ 4000
        · exact .inr (by have : ¬ (n.lev : Int) ≤ 60 := fun h2 => hc ⟨h1, h2⟩; omega)
        · exact .inl (by omega)
      rw [this, e]; rfl
def rootS (n : NodeA) : Int := if sortS n.op == 0 || sortS n.op == 4 then 80 else checkS n (sortS n.op)
/-! ### Nodes -/
end Go.Proofs.YtngmfimpaembnaaGreatDoor
