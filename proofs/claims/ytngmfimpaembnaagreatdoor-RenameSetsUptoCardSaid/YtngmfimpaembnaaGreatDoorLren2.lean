/- Part of the proof of a law: contracts of the functions that the law reaches, or plain laws of them, out of the abstract layer (the texts YtngmfimpaembnaaGreatDoorIso..). No condition. -/
import Derived.Test.YtngmfimpaembnaaGreatDoorLren
import Derived.Test.YtngmfimpaembnaaGreatDoorPd
import Derived.KernelRfl
namespace Go.Proofs.YtngmfimpaembnaaGreatDoor
open Go Go.Iso Go.Proofs
set_option linter.unusedSimpArgs false
set_option linter.unusedVariables false
set_option maxRecDepth 100000
theorem awake18_eq (k : Nat) : law18_awake (k + 200) = some true := by kernel_rfl
/-! ### Copies -/
def Few (r : RatA) : Prop := r.num.length ≤ 100 ∧ r.den.length ≤ 100
theorem natS_few {r : RatA} (h : natS r = true) : Few r := by
  unfold natS at h
  simp only [Bool.and_eq_true, decide_eq_true_eq] at h
  have hd : r.den = [1] := eq_of_beq h.1.1.2
  exact ⟨by omega, by rw [hd]; simp⟩
theorem fine_few {n : NodeA} (h : Fine n) : Few n.num := by
  obtain ⟨d, fd, fl, h⟩ := h
  rw [okS_eq] at h
  simp only [Bool.and_eq_true] at h
  have h := h.1
  unfold numC at h
  split at h
  · exact natS_few h
  · simp only [Bool.not_eq_true', Bool.or_eq_false_iff, decide_eq_false_iff_not] at h
    exact ⟨by omega, by omega⟩
theorem app_few {l : List Int} (h : l.length ≤ 100) : appO 4 [] l = some l := by
  unfold appO; rw [if_pos (by simp; omega)]; rfl
theorem app_few' {l : List Int} (h : l.length ≤ 100) : ((if (decide ((0 : Int) < (l.length : Int))) then (appO 4 [] l).bind fun l4 => some l4 else some []) : Option (List Int)) = some l := by
  cases l with
  | nil => rfl
  | cons a l => rw [app_few h]; simp
theorem copy_leaf {K : Nat} {op : Int} {m : ByteArray} {r : RatA} (h : Few r) (hK : 0 < K) : tree_Copy K (.mk op m r []) = some (.mk op m r []) := by
  obtain ⟨k, rfl⟩ : ∃ k, K = k + 1 := ⟨K - 1, by omega⟩
  unfold tree_Copy
  rw [iter_succ]
  generalize iter k (fun self q => tree_Copy_body (k + 1) self q) = S
  unfold tree_Copy_body
  simp only [NodeA.num_mk, NodeA.kids_mk, NodeA.op_mk, NodeA.name_mk]
  refine ob _ (app_few' h.1) (ob _ (app_few' h.2) (ob _ (iter_succ ..) ?_))
  rfl
theorem app_node {l : List NodeA} {x : NodeA} (h : l.length ≤ big) : appO 104 l [x] = some (l ++ [x]) := by
  unfold appO big at *
  rw [if_pos (by simp only [List.length_singleton]; omega)]
section
variable {x y : ByteArray}
theorem uniform_iter {K : Nat} : ∀ (n : NodeA) (j : Nat), Fine n → n.size ≤ j → n.size ≤ K → n.size ≤ big → iter j (fun self q => rename_uniform_2_body K self q.1 q.2.1 q.2.2) (n, x, y) = some (exS x y n) := by
  refine NodeA.ind fun n ih => ?_
  intro j hf hj hK hb
  have hp := n.size_pos
  have hkl := n.kids_lt
  obtain ⟨j, rfl⟩ : ∃ i, j = i + 1 := ⟨j - 1, by omega⟩
  rw [iter_succ]
  have ih' : ∀ k ∈ n.kids, iter j (fun self q => rename_uniform_2_body K self q.1 q.2.1 q.2.2) (k, x, y) = some (exS x y k) := fun k hk => ih k hk j (fine_kid hf hk) (by have := NodeA.size_lt hk; omega) (by have := NodeA.size_lt hk; omega) (by have := NodeA.size_lt hk; omega)
  generalize iter j (fun self q => rename_uniform_2_body K self q.1 q.2.1 q.2.2) = S at ih' ⊢
  unfold rename_uniform_2_body
  simp only
  refine ob _ (copy_leaf (fine_few hf) (by omega)) ?_
  simp only [rename_variable_eq, Option.bind_some, rename_uniform_1_eq, NodeA.name_mk, NodeA.op_mk, NodeA.num_mk, NodeA.kids_mk]
  have hn : (if varOp n.op then some (swB x y n.name) else some n.name) = some (exN x y n.op n.name) := by unfold exN; split <;> rfl
  rw [hn]
  simp only [Option.bind_some]
  unfold big at hb
  refine ob (n.kids.map (exS x y)) (foldG n.kids.length (fun i => ((i : Int), (n.kids.take i).map (exS x y))) _ (fun g i hi => ?_) (fun g => ?_) (by omega) rfl) ?_
  · have hx : n.kids[i]? = some n.kids[i] := List.getElem?_eq_getElem hi
    have hl : ((n.kids.take i).map (exS x y)).length ≤ big := by rw [List.length_map, List.length_take]; unfold big; omega
    simp only [lt_tn hi, if_true, idx_nat, hx, Option.bind_some, ih' _ (List.getElem_mem hi), app_node hl]
    have et : n.kids.take (i + 1) = n.kids.take i ++ [n.kids[i]] := by rw [List.take_add_one, hx]; rfl
    rw [w64s (by omega), et, List.map_append]; rfl
  · simp only [lt_fn (Nat.le_refl n.kids.length), Bool.false_eq_true, if_false, List.take_length]
  · cases n with | mk o m r ks => rw [exS_mk]; rfl
end
/-! ### Equal to itself -/
/-! ### The law -/
theorem rename_check_eq {K : Nat} {n : NodeA} (hK : 12 < K) (hK2 : 2 * n.size ≤ K) (hb : n.size ≤ big) : rename_check K n = some (rootS n) := by
  unfold rename_check rootS
  simp only [tree_Sort_eq, Option.bind_some, orO]
  cases (sortS n.op == 0 || sortS n.op == 4) with
  | true => rfl
  | false => simp only [Bool.false_eq_true, if_false, Option.bind_some, Out.fin_go, tree_Check_eq hK hK2 hb]
abbrev zN : NodeA := NodeA.mk 0 ⟨#[]⟩ (RatA.mk false [] []) []
def uniA (n : NodeA) (x y : ByteArray) : NodeA × Int :=
  if rootS n != 0 then (zN, rootS n) else if !nameB x || !nameB y then (zN, 3) else if !renB n then (zN, 180) else (exS x y n, 0)
theorem rename_Uniform_eq {K : Nat} {n : NodeA} {x y : ByteArray} (hK : 12 < K) (hK2 : 2 * n.size ≤ K) (hb : n.size ≤ big) : rename_Uniform K n x y = some (uniA n x y) := by
  unfold rename_Uniform uniA
  simp only [rename_check_eq hK hK2 hb, Option.bind_some, tree_Name_eq hK, rename_renamable_eq (show n.size ≤ K by omega) hK hb]
  by_cases hr : rootS n = 0
  · have e : (rootS n != 0) = false := by simpa using hr
    have hf : Fine n := ⟨_, _, _, (rootS_ok hr).1⟩
    have hu : rename_uniform K n x y = some (exS x y n) := by
      unfold rename_uniform rename_uniform_2
      rw [uniform_iter n K hf (by omega) (by omega) hb]; rfl
    rw [e, hu]
    cases nameB x <;> cases nameB y <;> cases renB n <;> rfl
  · have e : (rootS n != 0) = true := by simpa using hr
    rw [e]; rfl
end Go.Proofs.YtngmfimpaembnaaGreatDoor
