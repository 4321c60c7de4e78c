/- Part of the proof of a law: contracts of the functions that the law reaches, or plain laws of them, out of the abstract layer (the texts YtngmfimpaembnaaGreatDoorIso..). No condition. -/
import Derived.Test.YtngmfimpaembnaaGreatDoorLcheck
namespace Go.Proofs.YtngmfimpaembnaaGreatDoor
open Go Go.Iso Go.Proofs
set_option linter.unusedSimpArgs false
set_option linter.unusedVariables false
set_option maxRecDepth 100000
/-! ### Check -/
def checkS (n : NodeA) (s : Int) : Int :=
  if decide (s < 1) || decide (3 < s) then 1 else if decide ((n.size : Int) ≤ 4000) && decide ((n.lev : Int) ≤ 60) then (if sortS n.op != s then 80 else if !okS n false false false then 3 else 0) else 2
theorem tree_Check_eq {K : Nat} {n : NodeA} {s : Int} (hK : 12 < K) (hK2 : 2 * n.size ≤ K) (hb : n.size ≤ big) : tree_Check K n s = some (checkS n s) := by
  unfold tree_Check checkS
  simp only [orO, Option.bind_some]
  cases hs : (decide (s < 1) || decide (3 < s)) with
  | true => rfl
  | false =>
    simp only [Bool.false_eq_true, if_false, Option.bind_some, Out.fin_go]
    obtain ⟨r, hr, hw⟩ := tree_within_eq (show n.size ≤ K by omega) hb
    rw [hr]
    simp only [Option.bind_some]
    unfold Within at hw
    by_cases hc : (n.size : Int) ≤ 4000 ∧ (n.lev : Int) ≤ 60
    · rw [if_pos hc] at hw
      subst hw
      rw [decide_eq_true hc.1, decide_eq_true hc.2]
      simp only [Bool.not_true, Bool.false_eq_true, if_false, tree_Sort_eq, Option.bind_some, Bool.and_self, if_true]
      by_cases h2 : sortS n.op = s
      · have e : (sortS n.op != s) = false := by simp [h2]
        have h0 : sortS n.op ≠ 0 := by rw [h2]; intro hz; subst hz; revert hs; decide
        rw [e]
        simp only [Bool.false_eq_true, if_false]
        have : tree_formed K n (Tree_placeA.mk false false false) = some (okS n false false false) := formed_iter hK K n ⟨false, false, false⟩ (by omega) (by omega) hb h0
        rw [this]
        simp only [Option.bind_some]
        cases okS n false false false <;> rfl
      · have e : (sortS n.op != s) = true := by simp [h2]
        rw [e]; rfl
    · rw [if_neg hc] at hw
      rw [hw]
      have : (decide ((n.size : Int) ≤ 4000) && decide ((n.lev : Int) ≤ 60)) = false := by
        rw [Bool.and_eq_false_iff, decide_eq_false_iff_not, decide_eq_false_iff_not]
        by_cases h1 : (n.size : Int) ≤ 4000
        · exact .inr fun h2 => hc ⟨h1, h2⟩
        · exact .inl h1
      rw [this]; rfl
def rootS (n : NodeA) : Int := if sortS n.op == 0 || sortS n.op == 4 then 80 else checkS n (sortS n.op)
theorem rootS_ok {n : NodeA} (h : rootS n = 0) : okS n false false false = true ∧ sortS n.op ≠ 0 := by
  unfold rootS at h
  cases hs : (sortS n.op == 0 || sortS n.op == 4) with
  | true => rw [hs] at h; cases h
  | false =>
    rw [hs] at h
    simp only [Bool.false_eq_true, if_false] at h
    have h0 : sortS n.op ≠ 0 := by intro hz; rw [hz] at hs; revert hs; decide
    refine ⟨?_, h0⟩
    unfold checkS at h
    revert h
    cases (decide (sortS n.op < 1) || decide (3 < sortS n.op)) <;> cases (decide ((n.size : Int) ≤ 4000) && decide ((n.lev : Int) ≤ 60)) <;> cases hq : (sortS n.op != sortS n.op) <;> cases okS n false false false <;> simp
/-! ### Nodes -/
def Fine (n : NodeA) : Prop := ∃ d fd fl, okS n d fd fl = true
theorem fine_kid {n k : NodeA} (h : Fine n) (hk : k ∈ n.kids) : Fine k := by
  obtain ⟨d, fd, fl, h⟩ := h
  rw [okS_eq] at h
  simp only [Bool.and_eq_true, List.all_eq_true] at h
  exact ⟨_, _, _, h.2.2.2.2.1 k hk⟩
end Go.Proofs.YtngmfimpaembnaaGreatDoor
