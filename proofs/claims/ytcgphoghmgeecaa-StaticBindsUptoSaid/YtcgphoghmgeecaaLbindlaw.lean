/- Part of the proof of a law: contracts of the functions that the law reaches, or plain laws of them, out of the abstract layer (the texts YtcgphoghmgeecaaIso..). No condition. -/
import Derived.Test.YtcgphoghmgeecaaLfree
import Derived.Test.YtcgphoghmgeecaaPb
import Derived.KernelRfl
namespace Go.Proofs.Ytcgphoghmgeecaa
open Go Go.Iso Go.Proofs
set_option linter.unusedSimpArgs false
set_option linter.unusedVariables false
set_option maxRecDepth 100000
theorem awake_eq (k : Nat) : law10_awake (k + 100) = some true := by kernel_rfl
theorem same_eq {K : Nat} {A : Api_NamesA} (hl : A.list.length < K) (hb : A.list.length ≤ topV) : r10_Same K A A = some true := by
  have ht : topV = 1000000000000 := rfl
  have e1 : (!(A.all == A.all)) = false := by simp
  have e2 : ((A.list.length : Int) != (A.list.length : Int)) = false := by simp
  unfold r10_Same
  rw [e1, e2]
  simp only [Bool.false_eq_true, if_false, Option.bind_some, Out.fin_go]
  refine ob (Out.go () : Out Unit Bool) (foldG A.list.length (fun i => (i : Int)) (Out.go () : Out Unit Bool) (fun g i hi => ?_) (fun g => ?_) hl rfl) rfl
  · have hx : A.list[i]? = some A.list[i] := List.getElem?_eq_getElem hi
    have hd : decide ((i : Int) < (A.list.length : Int)) = true := decide_eq_true (by omega)
    simp only [hd, if_true, idx_nat, hx, Option.bind_some, beq_self_eq_true, Bool.not_true, Bool.false_eq_true, if_false]
    rw [w64s (by omega)]
  · have hd : decide ((A.list.length : Int) < (A.list.length : Int)) = false := by simp
    simp only [hd, Bool.false_eq_true, if_false]
theorem checkS_three {n : NodeA} (h : checkS n 3 = 0) : sortS n.op = 3 ∧ rootS n = 0 := by
  have hs : sortS n.op = 3 := by
    apply Classical.byContradiction
    intro hne
    unfold checkS at h
    have e : (sortS n.op != 3) = true := by simpa using hne
    rw [e] at h
    revert h
    cases (decide ((n.size : Int) ≤ 4000) && decide ((n.lev : Int) ≤ 60)) <;> cases okS n false false false <;> decide
  refine ⟨hs, ?_⟩
  unfold rootS
  rw [hs]
  exact h
theorem binds_law {a b : NodeA} (hb : 1 + a.size + b.size ≤ 100000000) (wa : a.words) (wb : b.words) : ∃ K, law10_StaticBinds K a b = some true := by
  have hns : (NodeA.mk 57 ⟨#[]⟩ (RatA.mk false [] []) [a, b]).size = 1 + a.size + b.size := by rw [NodeA.size_mk]; simp; omega
  have wn : (NodeA.mk 57 ⟨#[]⟩ (RatA.mk false [] []) [a, b]).words := by
    rw [NodeA.words_mk]
    refine ⟨⟨fun x hx => (by cases hx), fun x hx => (by cases hx)⟩, fun k hk => ?_⟩
    simp at hk
    rcases hk with rfl | rfl
    · exact wa
    · exact wb
  have hop : (NodeA.mk 57 ⟨#[]⟩ (RatA.mk false [] []) [a, b]).op = 57 := rfl
  have hkids : (NodeA.mk 57 ⟨#[]⟩ (RatA.mk false [] []) [a, b]).kids = [a, b] := rfl
  obtain ⟨n, hn⟩ : ∃ n, n = NodeA.mk 57 ⟨#[]⟩ (RatA.mk false [] []) [a, b] := ⟨_, rfl⟩
  rw [← hn] at hns wn hop hkids
  have hbig : ∀ m, m ≤ 100000000 → m ≤ big := fun m h => by unfold big; omega
  refine ⟨2 * n.size + 2 * (uniL n).length + 13 + 100, ?_⟩
  obtain ⟨K, hKe⟩ : ∃ K, K = 2 * n.size + 2 * (uniL n).length + 13 + 100 := ⟨_, rfl⟩
  have haw : law10_awake K = some true := by rw [hKe]; exact awake_eq _
  rw [← hKe]
  have hSa := r08_Size_eq (K := K) (n := a) (by omega) (hbig _ (by omega))
  have hSb := r08_Size_eq (K := K) (n := b) (by omega) (hbig _ (by omega))
  have hCa := r08_Check_eq (K := K) (n := a) (s := 3) (by omega) (by omega) (hbig _ (by omega)) wa
  have hCb := r08_Check_eq (K := K) (n := b) (s := 3) (by omega) (by omega) (hbig _ (by omega)) wb
  have hCn := r08_Check_eq (K := K) (n := n) (s := 3) (by omega) (by omega) (hbig _ (by omega)) wn
  have hca := static_check_eq (K := K) (n := a) (by omega) (by omega) (hbig _ (by omega))
  have hcb := static_check_eq (K := K) (n := b) (by omega) (by omega) (hbig _ (by omega))
  have hcn := static_check_eq (K := K) (n := n) (by omega) (by omega) (hbig _ (by omega))
  unfold law10_StaticBinds
  rw [← hn]
  simp only [haw, Option.bind_some, Bool.not_true, Bool.false_eq_true, if_false, hSa, hSb, hCa, hCb, hCn]
  cases hd : decide ((500 : Int) < IntKind.wrap .i64 ((a.size : Int) + (b.size : Int))) with
  | true => rfl
  | false =>
  simp only [Bool.false_eq_true, if_false]
  by_cases h1 : checkS a 3 = 0
  rotate_left
  · have e : (checkS a 3 != 0) = true := by simpa using h1
    simp only [e, if_true, Option.bind_some]; rfl
  by_cases h2 : checkS b 3 = 0
  rotate_left
  · have e : (checkS b 3 != 0) = true := by simpa using h2
    have e1 : (checkS a 3 != 0) = false := by simpa using h1
    simp only [e, e1, Bool.false_eq_true, if_false, if_true, Option.bind_some]; rfl
  by_cases h3 : checkS n 3 = 0
  rotate_left
  · have e : (checkS n 3 != 0) = true := by simpa using h3
    simp only [h1, h2, bne_self_eq_false, e, Bool.false_eq_true, if_false, if_true, Option.bind_some, Out.fin_go]
  simp only [h1, h2, h3, bne_self_eq_false, Bool.false_eq_true, if_false, Option.bind_some, Out.fin_go]
  obtain ⟨s1, r1⟩ := checkS_three h1
  obtain ⟨s2, r2⟩ := checkS_three h2
  obtain ⟨s3, r3⟩ := checkS_three h3
  have fn : Fine n := ⟨_, _, _, (rootS_ok r3).1⟩
  have ma : a ∈ n.kids := by rw [hkids]; simp
  have mb : b ∈ n.kids := by rw [hkids]; simp
  have fa := fine_kid fn ma
  have fb := fine_kid fn mb
  have cn := cov_uni n
  have ca := cov_kid cn ma
  have cb := cov_kid cn mb
  have hV := uni_uni (n := n) (by omega)
  have hK : KS (uniL n) n K := ⟨⟨by omega, by omega⟩, by omega⟩
  have hKa := ks_kid hK ma
  have hKb := ks_kid hK mb
  obtain ⟨⟨Ba, _⟩, _⟩ := bound_ev hV a fa ca (hbig _ (by omega))
  obtain ⟨⟨Bb, _⟩, _⟩ := bound_ev hV b fb cb (hbig _ (by omega))
  obtain ⟨⟨Bn, Bne⟩, _⟩ := bound_ev hV n fn cn (hbig _ (by omega))
  obtain ⟨M, iM, hsub⟩ := must_ex hV a fa ca (hbig _ (by omega))
  obtain ⟨Fa, iFa⟩ := free_ex hV a fa ca (hbig _ (by omega))
  obtain ⟨Fb, iFb⟩ := free_ex hV b fb cb (hbig _ (by omega))
  have hsub := hsub s1
  have gd := good_minus iFb.1 iM.1
  have gu := good_union iFa.1 gd
  have qBa : static_BoundOf K a = some (bndS (uniL n) a) := Ba.2 K K hKa (by omega)
  have qBb : static_BoundOf K b = some (bndS (uniL n) b) := Bb.2 K K hKb (by omega)
  have qBn : static_BoundOf K n = some (bndS (uniL n) n) := Bn.2 K K hK (by omega)
  have qM : static_MustOf K a = some M := iM.2 K K hKa (by omega)
  have qFa : static_FreeOf K a = some Fa := iFa.2 K K hKa (by omega)
  have qFb : static_FreeOf K b = some Fb := iFb.2 K K hKb (by omega)
  have hBeq : bndS (uniL n) n = unionS (bndS (uniL n) a) (bndS (uniL n) b) := by
    rw [Bne, bnd_kids (.inl hop), hkids]
    show unionS (unionS noneS (bndS (uniL n) a)) (bndS (uniL n) b) = _
    rw [none_union Ba.1]
  have qFn : static_FreeOf K n = some (unionS Fa (minusS Fb M)) := by
    obtain ⟨k, rfl⟩ : ∃ k, K = k + 1 := ⟨K - 1, by omega⟩
    show iter (k + 1) _ n = _
    rw [iter_succ, hn]
    exact fb57 (.inr (.inr rfl)) (iFa.2 (k + 1) k hKa (by omega)) (iFb.2 (k + 1) k hKb (by omega)) qM (static_minus_eq iFb.1 iM.1 hK.1) (static_union_eq iFa.1 gd hK.1)
  have eBa : static_Bound K a = some (bndS (uniL n) a, 0) := by unfold static_Bound; rw [hca, r1]; exact ob _ rfl (ob _ qBa rfl)
  have eBb : static_Bound K b = some (bndS (uniL n) b, 0) := by unfold static_Bound; rw [hcb, r2]; exact ob _ rfl (ob _ qBb rfl)
  have eBn : static_Bound K n = some (bndS (uniL n) n, 0) := by unfold static_Bound; rw [hcn, r3]; exact ob _ rfl (ob _ qBn rfl)
  have eM : static_Must K a = some (M, 0) := by
    unfold static_Must
    rw [hca, r1, tree_Sort_eq, s1]
    show (static_MustOf K a).bind (fun r7 => some (r7, (0 : Int))) = _
    exact ob _ qM rfl
  have eFa : static_Free K a = some (Fa, 0) := by unfold static_Free; rw [hca, r1]; exact ob _ rfl (ob _ qFa rfl)
  have eFb : static_Free K b = some (Fb, 0) := by unfold static_Free; rw [hcb, r2]; exact ob _ rfl (ob _ qFb rfl)
  have eFn : static_Free K n = some (unionS Fa (minusS Fb M), 0) := by unfold static_Free; rw [hcn, r3]; exact ob _ rfl (ob _ qFn rfl)
  have gB := good_union Ba.1 Bb.1
  have eS1 : r10_Same K (bndS (uniL n) n) (unionS (bndS (uniL n) a) (bndS (uniL n) b)) = some true := by
    rw [hBeq]
    exact same_eq (by have := gB.len; omega) gB.lt
  have eS2 : r10_Same K (unionS Fa (minusS Fb M)) (unionS Fa (minusS Fb M)) = some true := same_eq (by have := gu.len; omega) gu.lt
  have eE : r10_Empty K (minusS M (bndS (uniL n) a)) = some true := by rw [sub_empty iM.1 Ba.1 hsub]; rfl
  simp only [eBa, eBb, eBn, eM, eFa, eFb, eFn, Option.bind_some, static_Union_eq Ba.1 Bb.1 hK.1, static_Minus_eq iM.1 Ba.1 hK.1, static_Minus_eq iFb.1 iM.1 hK.1, static_Union_eq iFa.1 gd hK.1, bne_self_eq_false, beq_self_eq_true, Bool.false_eq_true, if_false, if_true, eS1, eS2, eE, Bool.not_true, Out.fin_go]
end Go.Proofs.Ytcgphoghmgeecaa
