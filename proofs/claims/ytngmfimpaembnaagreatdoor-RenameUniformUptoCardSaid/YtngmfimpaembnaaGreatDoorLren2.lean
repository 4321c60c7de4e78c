/- Part of the proof of a law: contracts of the functions that the law reaches, or plain laws of them, out of the abstract layer (the texts YtngmfimpaembnaaGreatDoorIso..). No condition. -/
import Derived.Test.YtngmfimpaembnaaGreatDoorLren
import Derived.Test.YtngmfimpaembnaaGreatDoorPc
import Derived.KernelRfl
namespace Go.Proofs.YtngmfimpaembnaaGreatDoor
open Go Go.Iso Go.Proofs
set_option linter.unusedSimpArgs false
set_option linter.unusedVariables false
set_option maxRecDepth 100000
theorem awake18_eq (k : Nat) : law18_awake (k + 200) = some true := by kernel_rfl

/-! ### Copies -/
/-- Numbers of few words. -/
def Few (r : RatA) : Prop := r.num.length ≤ 100 ∧ r.den.length ≤ 100
theorem natS_few {r : RatA} (h : natS r = true) : Few r := by
  unfold natS at h
  simp only [Bool.and_eq_true, decide_eq_true_eq] at h
  have hd : r.den = [1] := eq_of_beq h.1.1.2
  exact ⟨by omega, by rw [hd]; simp⟩
theorem fine_few {n : NodeA} (h : Fine n) : Few n.num := by
  obtain ⟨d, fd, fl, h⟩ := h
  rw [okS_eq] at h
  simp only [Bool.and_eq_true] at h
  have h := h.1
  unfold numC at h
  split at h
  · exact natS_few h
  · simp only [Bool.not_eq_true', Bool.or_eq_false_iff, decide_eq_false_iff_not] at h
    exact ⟨by omega, by omega⟩
theorem app_few {l : List Int} (h : l.length ≤ 100) : appO 4 [] l = some l := by
  unfold appO; rw [if_pos (by simp; omega)]; rfl
theorem app_few' {l : List Int} (h : l.length ≤ 100) : ((if (decide ((0 : Int) < (l.length : Int))) then (appO 4 [] l).bind fun l4 => some l4 else some []) : Option (List Int)) = some l := by
  cases l with
  | nil => rfl
  | cons a l => rw [app_few h]; simp
theorem copy_leaf {K : Nat} {op : Int} {m : ByteArray} {r : RatA} (h : Few r) (hK : 0 < K) : tree_Copy K (.mk op m r []) = some (.mk op m r []) := by
  obtain ⟨k, rfl⟩ : ∃ k, K = k + 1 := ⟨K - 1, by omega⟩
  unfold tree_Copy
  rw [iter_succ]
  generalize iter k (fun self q => tree_Copy_body (k + 1) self q) = S
  unfold tree_Copy_body
  simp only [NodeA.num_mk, NodeA.kids_mk, NodeA.op_mk, NodeA.name_mk]
  refine ob _ (app_few' h.1) (ob _ (app_few' h.2) (ob _ (iter_succ ..) ?_))
  rfl
theorem app_node {l : List NodeA} {x : NodeA} (h : l.length ≤ big) : appO 104 l [x] = some (l ++ [x]) := by
  unfold appO big at *
  rw [if_pos (by simp only [List.length_singleton]; omega)]
section
variable {x y : ByteArray}
theorem uniform_iter {K : Nat} : ∀ (n : NodeA) (j : Nat), Fine n → n.size ≤ j → n.size ≤ K → n.size ≤ big → iter j (fun self q => rename_uniform_2_body K self q.1 q.2.1 q.2.2) (n, x, y) = some (exS x y n) := by
  refine NodeA.ind fun n ih => ?_
  intro j hf hj hK hb
  have hp := n.size_pos
  have hkl := n.kids_lt
  obtain ⟨j, rfl⟩ : ∃ i, j = i + 1 := ⟨j - 1, by omega⟩
  rw [iter_succ]
  have ih' : ∀ k ∈ n.kids, iter j (fun self q => rename_uniform_2_body K self q.1 q.2.1 q.2.2) (k, x, y) = some (exS x y k) := fun k hk => ih k hk j (fine_kid hf hk) (by have := NodeA.size_lt hk; omega) (by have := NodeA.size_lt hk; omega) (by have := NodeA.size_lt hk; omega)
  generalize iter j (fun self q => rename_uniform_2_body K self q.1 q.2.1 q.2.2) = S at ih' ⊢
  unfold rename_uniform_2_body
  simp only
  refine ob _ (copy_leaf (fine_few hf) (by omega)) ?_
  simp only [rename_variable_eq, Option.bind_some, rename_uniform_1_eq, NodeA.name_mk, NodeA.op_mk, NodeA.num_mk, NodeA.kids_mk]
  have hn : (if varOp n.op then some (swB x y n.name) else some n.name) = some (exN x y n.op n.name) := by unfold exN; split <;> rfl
  rw [hn]
  simp only [Option.bind_some]
  unfold big at hb
  refine ob (n.kids.map (exS x y)) (foldG n.kids.length (fun i => ((i : Int), (n.kids.take i).map (exS x y))) _ (fun g i hi => ?_) (fun g => ?_) (by omega) rfl) ?_
  · have hx : n.kids[i]? = some n.kids[i] := List.getElem?_eq_getElem hi
    have hl : ((n.kids.take i).map (exS x y)).length ≤ big := by rw [List.length_map, List.length_take]; unfold big; omega
    simp only [lt_tn hi, if_true, idx_nat, hx, Option.bind_some, ih' _ (List.getElem_mem hi), app_node hl]
    have et : n.kids.take (i + 1) = n.kids.take i ++ [n.kids[i]] := by rw [List.take_add_one, hx]; rfl
    rw [w64s (by omega), et, List.map_append]; rfl
  · simp only [lt_fn (Nat.le_refl n.kids.length), Bool.false_eq_true, if_false, List.take_length]
  · cases n with | mk o m r ks => rw [exS_mk]; rfl
theorem exchange_iter {K : Nat} : ∀ (n : NodeA) (j : Nat), n.size ≤ j → n.size ≤ K → n.size ≤ big → iter j (fun self q => r18_Exchange_body K self q.1 q.2.1 q.2.2) (n, x, y) = some (exS x y n) := by
  refine NodeA.ind fun n ih => ?_
  intro j hj hK hb
  have hp := n.size_pos
  have hkl := n.kids_lt
  obtain ⟨j, rfl⟩ : ∃ i, j = i + 1 := ⟨j - 1, by omega⟩
  rw [iter_succ]
  have ih' : ∀ k ∈ n.kids, iter j (fun self q => r18_Exchange_body K self q.1 q.2.1 q.2.2) (k, x, y) = some (exS x y k) := fun k hk => ih k hk j (by have := NodeA.size_lt hk; omega) (by have := NodeA.size_lt hk; omega) (by have := NodeA.size_lt hk; omega)
  generalize iter j (fun self q => r18_Exchange_body K self q.1 q.2.1 q.2.2) = S at ih' ⊢
  unfold r18_Exchange_body
  simp only
  unfold big at hb
  have h1 : ((r18_variable K n.op).bind fun r3 => if r3 then (if (n.name.toList == x.toList) then some (NodeA.mk n.op y n.num n.kids) else if (n.name.toList == y.toList) then some (NodeA.mk n.op x n.num n.kids) else some n) else some n) = some (NodeA.mk n.op (exN x y n.op n.name) n.num n.kids) := by
    rw [r18_variable_eq]
    cases n with
    | mk o m r ks =>
      simp only [Option.bind_some, NodeA.op_mk, NodeA.name_mk, NodeA.num_mk, NodeA.kids_mk]
      unfold exN swB
      cases varOp o <;> cases m.toList == x.toList <;> cases m.toList == y.toList <;> rfl
  refine ob _ h1 ?_
  simp only [NodeA.kids_mk, NodeA.op_mk, NodeA.name_mk, NodeA.num_mk]
  obtain ⟨v0, hv0⟩ : ∃ v0, v0 = NodeA.mk 0 ⟨#[]⟩ (RatA.mk false [] []) [] := ⟨_, rfl⟩
  rw [← hv0]
  have hm : makO 104 (n.kids.length : Int) v0 = some (List.replicate n.kids.length v0) := by
    unfold makO; rw [if_pos ⟨by omega, by simp only [Int.toNat_natCast]; omega⟩, Int.toNat_natCast]
  refine ob _ hm ?_
  refine ob (n.kids.map (exS x y)) (foldG n.kids.length (fun i => ((i : Int), (n.kids.take i).map (exS x y) ++ List.replicate (n.kids.length - i) v0)) _ (fun g i hi => ?_) (fun g => ?_) (by omega) (by simp)) ?_
  · have hx : n.kids[i]? = some n.kids[i] := List.getElem?_eq_getElem hi
    have hlen : ((n.kids.take i).map (exS x y)).length = i := by rw [List.length_map, List.length_take]; omega
    have hrep : List.replicate (n.kids.length - i) v0 = v0 :: List.replicate (n.kids.length - (i + 1)) v0 := by
      rw [show n.kids.length - i = (n.kids.length - (i + 1)) + 1 by omega, List.replicate_succ]
    have hy : ((n.kids.take i).map (exS x y) ++ List.replicate (n.kids.length - i) v0)[i]? = some v0 := by
      rw [List.getElem?_append_right (by omega), hlen, hrep, Nat.sub_self]; rfl
    simp only [lt_tn hi, if_true, idx_nat, hx, Option.bind_some, ih' _ (List.getElem_mem hi), hy, Int.toNat_natCast]
    rw [w64s (by omega), List.set_append_right _ _ (by omega), hlen, hrep, Nat.sub_self, List.set_cons_zero]
    have et : n.kids.take (i + 1) = n.kids.take i ++ [n.kids[i]] := by rw [List.take_add_one, hx]; rfl
    rw [et, List.map_append, List.append_assoc]; rfl
  · simp only [lt_fn (Nat.le_refl n.kids.length), Bool.false_eq_true, if_false, List.take_length, Nat.sub_self, List.replicate_zero, List.append_nil]
  · cases n with | mk o m r ks => rw [exS_mk]; rfl
end

/-! ### Equal to itself -/
theorem words_refl {K : Nat} {l : List Int} (hl : l.length ≤ 100) (hK : 100 < K) : r08_words K l l = some 0 := by
  unfold r08_words
  have e : ((l.length : Int) != (l.length : Int)) = false := by simp
  rw [e]
  simp only [Bool.false_eq_true, if_false]
  refine ob (Out.go () : Out Unit Int) (foldG l.length (fun i => (l.length : Int) - 1 - (i : Int)) (Out.go () : Out Unit Int) (fun g i hi => ?_) (fun g => ?_) (by omega) ?_) rfl
  · have hd : decide ((0 : Int) ≤ (l.length : Int) - 1 - (i : Int)) = true := decide_eq_true (by omega)
    have ez : (l.length : Int) - 1 - (i : Int) = ((l.length - 1 - i : Nat) : Int) := by omega
    have hx : l[l.length - 1 - i]? = some l[l.length - 1 - i] := List.getElem?_eq_getElem (by omega)
    simp only [hd, if_true, ez, idx_nat, hx, Option.bind_some, bne_self_eq_false, Bool.false_eq_true, if_false]
    rw [w64 (by omega) (by omega)]
    show g _ = g ((l.length : Int) - 1 - ((i + 1 : Nat) : Int))
    congr 1
    omega
  · have hd : decide ((0 : Int) ≤ (l.length : Int) - 1 - (l.length : Int)) = false := decide_eq_false (by omega)
    simp only [hd, Bool.false_eq_true, if_false]
  · rw [w64 (by omega) (by omega)]; simp
def FewN : NodeA → Prop
  | .mk _ _ r ks => Few r ∧ ∀ k (h : k ∈ ks), FewN k
termination_by n => SizeOf.sizeOf n
decreasing_by exact NodeA.size_kid h
theorem FewN_mk {o : Int} {m : ByteArray} {r : RatA} {ks : List NodeA} : FewN (.mk o m r ks) = (Few r ∧ ∀ k ∈ ks, FewN k) := by rw [FewN]
theorem FewN_num {n : NodeA} (h : FewN n) : Few n.num := by cases n; rw [FewN_mk] at h; exact h.1
theorem FewN_kid {n k : NodeA} (h : FewN n) (hk : k ∈ n.kids) : FewN k := by cases n; rw [FewN_mk] at h; exact h.2 k hk
theorem fine_fewN : ∀ n : NodeA, Fine n → FewN n := NodeA.ind fun n ih => by
  intro h
  have h1 := fine_few h
  have h2 : ∀ k ∈ n.kids, FewN k := fun k hk => ih k hk (fine_kid h hk)
  cases n with | mk o m r ks => rw [FewN_mk]; exact ⟨h1, h2⟩
theorem compare_refl {K : Nat} (hK2 : 100 < K) : ∀ (n : NodeA) (j : Nat), FewN n → n.size ≤ j → n.size ≤ K → n.size ≤ big → iter j (fun self q => r08_Compare_body K self q.1 q.2) (n, n) = some 0 := by
  refine NodeA.ind fun n ih => ?_
  intro j hf hj hK hb
  have hp := n.size_pos
  have hkl := n.kids_lt
  obtain ⟨j, rfl⟩ : ∃ i, j = i + 1 := ⟨j - 1, by omega⟩
  rw [iter_succ]
  have ih' : ∀ k ∈ n.kids, iter j (fun self q => r08_Compare_body K self q.1 q.2) (k, k) = some 0 := fun k hk => ih k hk j (FewN_kid hf hk) (by have := NodeA.size_lt hk; omega) (by have := NodeA.size_lt hk; omega) (by have := NodeA.size_lt hk; omega)
  generalize iter j (fun self q => r08_Compare_body K self q.1 q.2) = S at ih' ⊢
  unfold r08_Compare_body
  simp only
  have hless : ∀ z : Int, r08_less K z z = some 0 := fun z => by
    unfold r08_less
    have e : decide (z < z) = false := by simp
    rw [e]; rfl
  have e1 : (!(n.name.toList == n.name.toList)) = false := by simp
  have e2 : (!(n.num.neg == n.num.neg)) = false := by simp
  simp only [hless, Option.bind_some, bne_self_eq_false, Bool.false_eq_true, if_false, e1, e2, words_refl (FewN_num hf).1 hK2, words_refl (FewN_num hf).2 hK2]
  unfold big at hb
  refine ob (Out.go () : Out Unit Int) (foldG n.kids.length (fun i => (i : Int)) (Out.go () : Out Unit Int) (fun g i hi => ?_) (fun g => ?_) (by omega) rfl) rfl
  · have hx : n.kids[i]? = some n.kids[i] := List.getElem?_eq_getElem hi
    simp only [lt_tn hi, if_true, idx_nat, hx, Option.bind_some, ih' _ (List.getElem_mem hi), bne_self_eq_false, Bool.false_eq_true, if_false]
    rw [w64s (by omega)]
  · simp only [lt_fn (Nat.le_refl n.kids.length), Bool.false_eq_true, if_false]
theorem equal_refl {K : Nat} {n : NodeA} (hK2 : 100 < K) (hf : FewN n) (hK : n.size ≤ K) (hb : n.size ≤ big) : r08_Equal K n n = some true := by
  unfold r08_Equal r08_Compare
  rw [compare_refl hK2 n K hf hK hK hb]; rfl

/-! ### The law -/
theorem rename_check_eq {K : Nat} {n : NodeA} (hK : 12 < K) (hK2 : 2 * n.size ≤ K) (hb : n.size ≤ big) : rename_check K n = some (rootS n) := by
  unfold rename_check rootS
  simp only [tree_Sort_eq, Option.bind_some, orO]
  cases (sortS n.op == 0 || sortS n.op == 4) with
  | true => rfl
  | false => simp only [Bool.false_eq_true, if_false, Option.bind_some, Out.fin_go, tree_Check_eq hK hK2 hb]
theorem r18_check_eq {K : Nat} {n : NodeA} (hK : 12 < K) (hK2 : 2 * n.size ≤ K) (hb : n.size ≤ big) (hw : n.words) : r18_check K n = some (rootS n) := by
  unfold r18_check rootS
  simp only [r08_Sort_eq, Option.bind_some, orO]
  cases (sortS n.op == 0 || sortS n.op == 4) with
  | true => rfl
  | false => simp only [Bool.false_eq_true, if_false, Option.bind_some, Out.fin_go, r08_Check_eq hK hK2 hb hw]
abbrev zN : NodeA := NodeA.mk 0 ⟨#[]⟩ (RatA.mk false [] []) []
def uniA (n : NodeA) (x y : ByteArray) : NodeA × Int :=
  if rootS n != 0 then (zN, rootS n) else if !nameB x || !nameB y then (zN, 3) else if !renB n then (zN, 180) else (exS x y n, 0)
theorem rename_Uniform_eq {K : Nat} {n : NodeA} {x y : ByteArray} (hK : 12 < K) (hK2 : 2 * n.size ≤ K) (hb : n.size ≤ big) : rename_Uniform K n x y = some (uniA n x y) := by
  unfold rename_Uniform uniA
  simp only [rename_check_eq hK hK2 hb, Option.bind_some, tree_Name_eq hK, rename_renamable_eq (show n.size ≤ K by omega) hK hb]
  by_cases hr : rootS n = 0
  · have e : (rootS n != 0) = false := by simpa using hr
    have hf : Fine n := ⟨_, _, _, (rootS_ok hr).1⟩
    have hu : rename_uniform K n x y = some (exS x y n) := by
      unfold rename_uniform rename_uniform_2
      rw [uniform_iter n K hf (by omega) (by omega) hb]; rfl
    rw [e, hu]
    cases nameB x <;> cases nameB y <;> cases renB n <;> rfl
  · have e : (rootS n != 0) = true := by simpa using hr
    rw [e]; rfl
theorem r18_Uniform_eq {K : Nat} {n : NodeA} {x y : ByteArray} (hK : 12 < K) (hK2 : 2 * n.size ≤ K) (hb : n.size ≤ big) (hw : n.words) : r18_Uniform K n x y = some (uniA n x y) := by
  unfold r18_Uniform uniA
  have hu : r18_Exchange K n x y = some (exS x y n) := by
    unfold r18_Exchange
    exact exchange_iter n K (by omega) (by omega) hb
  simp only [r18_check_eq hK hK2 hb hw, Option.bind_some, r08_Name_eq hK, r18_renamable_eq (show n.size ≤ K by omega) hb, hu]
  cases (rootS n != 0) <;> cases nameB x <;> cases nameB y <;> cases renB n <;> rfl
theorem uniform_law {n : NodeA} {x y : ByteArray} (hb : n.size ≤ big) (hw : n.words) : ∃ K, law18_RenameUniform K n x y = some true := by
  refine ⟨2 * n.size + 200, ?_⟩
  obtain ⟨K, hKe⟩ : ∃ K, K = 2 * n.size + 200 := ⟨_, rfl⟩
  have haw : law18_awake K = some true := by rw [hKe]; exact awake18_eq _
  rw [← hKe]
  have hp := n.size_pos
  have hzf : FewN zN := by rw [FewN_mk]; exact ⟨⟨by simp, by simp⟩, fun k hk => by cases hk⟩
  have hzs : zN.size = 1 := by rw [NodeA.size_mk]; simp
  have hU := rename_Uniform_eq (K := K) (n := n) (x := x) (y := y) (by omega) (by omega) hb
  have hR := r18_Uniform_eq (K := K) (n := n) (x := x) (y := y) (by omega) (by omega) hb hw
  have hU2 := rename_Uniform_eq (K := K) (n := n) (x := y) (y := x) (by omega) (by omega) hb
  unfold law18_RenameUniform
  simp only [haw, Option.bind_some, Bool.not_true, Bool.false_eq_true, if_false, r08_Size_eq (show n.size ≤ K by omega) hb, hU, hR, bne_self_eq_false]
  cases decide ((1000 : Int) < (n.size : Int)) with
  | true => rfl
  | false =>
  simp only [Bool.false_eq_true, if_false]
  have hzE : r08_Equal K zN zN = some true := equal_refl (by omega) hzf (by omega) (by omega)
  by_cases hr : rootS n = 0
  rotate_left
  · have e : (rootS n != 0) = true := by simpa using hr
    have hu : uniA n x y = (zN, rootS n) := by unfold uniA; rw [e]; rfl
    simp only [hu, hzE, Option.bind_some, Bool.not_true, Bool.false_eq_true, if_false, Out.fin_go, e, if_true]
  by_cases hn : nameB x = true ∧ nameB y = true
  rotate_left
  · have hu : uniA n x y = (zN, 3) := by
      unfold uniA
      have e : (rootS n != 0) = false := by simpa using hr
      have e2 : (!nameB x || !nameB y) = true := by
        cases h1 : nameB x <;> cases h2 : nameB y <;> simp_all
      rw [e, e2]; rfl
    simp only [hu, hzE, Option.bind_some, Bool.not_true, Bool.false_eq_true, if_false, Out.fin_go]
    rfl
  obtain ⟨hx, hy⟩ := hn
  by_cases hren : renB n = true
  rotate_left
  · have hu : uniA n x y = (zN, 180) := by
      unfold uniA
      have e : (rootS n != 0) = false := by simpa using hr
      have e3 : renB n = false := by simpa using hren
      rw [e, hx, hy, e3]; rfl
    simp only [hu, hzE, Option.bind_some, Bool.not_true, Bool.false_eq_true, if_false, Out.fin_go]
    rfl
  have e : (rootS n != 0) = false := by simpa using hr
  have hu : uniA n x y = (exS x y n, 0) := by unfold uniA; rw [e, hx, hy, hren]; rfl
  have hu2 : uniA n y x = (exS x y n, 0) := by unfold uniA; rw [e, hx, hy, hren, exS_comm]; rfl
  have hr2 : rootS (exS x y n) = 0 := exS_root hx hy hr
  have hu3 : uniA (exS x y n) x y = (n, 0) := by
    unfold uniA
    have e' : (rootS (exS x y n) != 0) = false := by simpa using hr2
    rw [e', hx, hy, exS_ren, hren, exS_exS]; rfl
  have hs : (exS x y n).size = n.size := exS_size n
  have hU3 := rename_Uniform_eq (K := K) (n := exS x y n) (x := x) (y := y) (by omega) (by omega) (by omega)
  have f1 : FewN n := fine_fewN n ⟨_, _, _, (rootS_ok hr).1⟩
  have f2 : FewN (exS x y n) := fine_fewN _ ⟨_, _, _, (rootS_ok hr2).1⟩
  have q1 : r08_Equal K n n = some true := equal_refl (by omega) f1 (by omega) hb
  have q2 : r08_Equal K (exS x y n) (exS x y n) = some true := equal_refl (by omega) f2 (by omega) (by omega)
  simp only [hu, hU2, hu2, hU3, hu3, q1, q2, Option.bind_some, Bool.not_true, Bool.false_eq_true, if_false, Out.fin_go, bne_self_eq_false, beq_self_eq_true, if_true]
end Go.Proofs.YtngmfimpaembnaaGreatDoor
