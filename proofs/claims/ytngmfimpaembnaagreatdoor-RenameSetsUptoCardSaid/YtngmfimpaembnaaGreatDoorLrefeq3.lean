/- Part of the proof of a law: contracts of the functions that the law reaches, or plain laws of them, out of the abstract layer (the texts YtngmfimpaembnaaGreatDoorIso..). No condition. -/
import Derived.Test.YtngmfimpaembnaaGreatDoorLrefeq2
namespace Go.Proofs.YtngmfimpaembnaaGreatDoor
open Go Go.Iso Go.Proofs
set_option linter.unusedSimpArgs false
set_option linter.unusedVariables false
set_option maxRecDepth 100000
section
variable {V : List ByteArray}
theorem any_iter {K : Nat} (hV : Uni V) : ∀ (n : NodeA) (j : Nat), Fine n → Cov V n → n.size ≤ big → n.size ≤ j → KR V n K → iter j (fun self q => r10_anywhere_body K self q) n = some (anyS n) := by
  refine NodeA.ind fun n ih => ?_
  intro j hf hc hb hj hK
  have hp := n.size_pos
  have hkl := n.kids_lt
  obtain ⟨j, rfl⟩ : ∃ i, j = i + 1 := ⟨j - 1, by omega⟩
  rw [iter_succ, anyS_eq]
  have ih' : ∀ k ∈ n.kids, iter j (fun self q => r10_anywhere_body K self q) k = some (anyS k) := fun k hk => ih k hk j (fine_kid hf hk) (cov_kid hc hk) (by have := NodeA.size_lt hk; omega) (by have := NodeA.size_lt hk; omega) (kr_kid hK hk)
  have hg : ∀ k ∈ n.kids, Good V (anyS k) := fun k hk => good_any hV k (fine_kid hf hk) (cov_kid hc hk)
  have hgn : namedS n.op = true → Good V (oneS n.name) ∧ Good V (oneS (n.name ++ tick)) ∧ n.name.size < 100 := good_name hV hf hc
  generalize iter j (fun self q => r10_anywhere_body K self q) = S at ih' ⊢
  have hloop : ∀ s0, Good V s0 → iter K (kidsJ K S n.kids) (0, s0) = some (unL s0 (n.kids.map anyS)) := fun s0 h0 => kidsJ_eq n.kids anyS ih' hg h0 hK.1 (by have := hK.2; omega) (by omega)
  have hK1 := hK.1
  unfold anyB
  by_cases h1 : n.op = 50 ∨ n.op = 52 ∨ n.op = 33 ∨ n.op = 34
  · rw [if_pos h1]
    exact ra50 h1 (hloop _ (hgn (named_b (by omega))).1)
  rw [if_neg h1]
  by_cases h2 : n.op = 51
  · have hn := hgn (named_b (by omega))
    have hl := hloop _ hn.2.1
    rw [if_pos h2]
    clear ih hj hp hkl hb hc hf ih' hg hgn hloop hK
    obtain ⟨op, m, r, ks⟩ := n
    simp only [NodeA.op_mk, NodeA.name_mk, NodeA.kids_mk] at h2 hn hl ⊢
    subst h2
    exact ra51 (catO_tick hn.2.2) hl
  rw [if_neg h2]
  by_cases h3 : n.op = 55
  · have hn := hgn (named_b (by omega))
    have hu := join_eq hn.1 hn.2.1 hK1
    have hl := hloop _ (good_union hn.1 hn.2.1)
    rw [if_pos h3]
    clear ih hj hp hkl hb hc hf ih' hg hgn hloop hK
    obtain ⟨op, m, r, ks⟩ := n
    simp only [NodeA.op_mk, NodeA.name_mk, NodeA.kids_mk] at h3 hn hl hu ⊢
    subst h3
    exact ra55 (catO_tick hn.2.2) hu hl
  rw [if_neg h3]
  by_cases h4 : n.op = 56 ∨ n.op = 61 ∨ n.op = 62
  · rw [if_pos h4]
    exact ra56 h4 (hloop _ (good_none hV _))
  rw [if_neg h4]
  exact raN h1 h2 h3 h4 (hloop _ (good_none hV _))
theorem bound_iter {K : Nat} (hV : Uni V) : ∀ (n : NodeA) (j : Nat), Fine n → Cov V n → n.size ≤ big → n.size ≤ j → KR V n K → iter j (fun self q => r10_bound_body K self q) n = some (bndR n) := by
  refine NodeA.ind fun n ih => ?_
  intro j hf hc hb hj hK
  have hp := n.size_pos
  have hkl := n.kids_lt
  obtain ⟨j, rfl⟩ : ∃ i, j = i + 1 := ⟨j - 1, by omega⟩
  rw [iter_succ, bndR_eq]
  have ih' : ∀ k ∈ n.kids, iter j (fun self q => r10_bound_body K self q) k = some (bndR k) := fun k hk => ih k hk j (fine_kid hf hk) (cov_kid hc hk) (by have := NodeA.size_lt hk; omega) (by have := NodeA.size_lt hk; omega) (kr_kid hK hk)
  have hg : ∀ k ∈ n.kids, Good V (bndR k) := fun k hk => good_bndR hV k (fine_kid hf hk) (cov_kid hc hk)
  have hgn : namedS n.op = true → Good V (oneS n.name) ∧ Good V (oneS (n.name ++ tick)) ∧ n.name.size < 100 := good_name hV hf hc
  have hany : r10_anywhere K n = some (anyS n) := any_iter hV n K hf hc hb (by have := hK.2; omega) hK
  generalize iter j (fun self q => r10_bound_body K self q) = S at ih' ⊢
  have hloop : ∀ s0, Good V s0 → iter K (kidsJ K S n.kids) (0, s0) = some (unL s0 (n.kids.map bndR)) := fun s0 h0 => kidsJ_eq n.kids bndR ih' hg h0 hK.1 (by have := hK.2; omega) (by omega)
  have hK1 := hK.1
  have hkK : n.kids.length < K := by have := hK.2; omega
  unfold boundB
  by_cases h0 : sortS n.op = 2
  · rw [if_pos h0]; exact rbS h0 hany
  rw [if_neg h0]
  by_cases h3 : n.op = 55
  · have hn := hgn (named_b (by omega))
    have hu := join_eq hn.1 hn.2.1 hK1
    rw [if_pos h3]
    clear ih hj hp hkl hb hc hf ih' hg hgn hloop hK hany h0 hkK
    obtain ⟨op, m, r, ks⟩ := n
    simp only [NodeA.op_mk, NodeA.name_mk, NodeA.kids_mk] at h3 hn hu ⊢
    subst h3
    exact rb55 (catO_tick hn.2.2) hu
  rw [if_neg h3]
  by_cases h4 : n.op = 56 ∨ n.op = 61 ∨ n.op = 62
  · rw [if_pos h4]; exact rb56 h4
  rw [if_neg h4]
  by_cases h5 : n.op = 53
  · rw [if_pos h5]
    clear ih hj hp hkl hb hc hf ih' hg hgn hloop hK hany h0 hkK
    obtain ⟨op, m, r, ks⟩ := n
    simp only [NodeA.op_mk] at h5
    subst h5
    exact rb53
  rw [if_neg h5]
  by_cases h6 : n.op = 54
  · obtain ⟨_, hpos⟩ := flow_cut hf hb h6
    unfold big at hb
    have hl := loopJ (K := K) n.kids (IntKind.wrap .i64 ((n.kids.length : Int) - 1)) (n.kids.length - 1) (by rw [w64 (by omega) (by omega)]; omega) (by omega) bndR ih' hg (good_none hV false) hK1 hkK (by unfold big; omega)
    have el : (n.kids.map bndR).take ((n.kids.map bndR).length - 1) = (n.kids.take (n.kids.length - 1)).map bndR := by rw [List.length_map, List.map_take]
    rw [if_pos h6, el]
    clear ih hj hp hkl hb hc hf ih' hg hgn hloop hK hany h0 hkK hpos el
    obtain ⟨op, m, r, ks⟩ := n
    simp only [NodeA.op_mk, NodeA.kids_mk] at h6 hl ⊢
    subst h6
    exact rb54 hl
  rw [if_neg h6]
  by_cases h1 : n.op = 50 ∨ n.op = 52
  · rw [if_pos h1]
    exact rb50 h1 (hloop _ (hgn (named_b (by omega))).1)
  rw [if_neg h1]
  by_cases h2 : n.op = 51
  · have hn := hgn (named_b (by omega))
    have hl := hloop _ hn.2.1
    rw [if_pos h2]
    clear ih hj hp hkl hb hc hf ih' hg hgn hloop hK hany h0 hkK
    obtain ⟨op, m, r, ks⟩ := n
    simp only [NodeA.op_mk, NodeA.name_mk, NodeA.kids_mk] at h2 hn hl ⊢
    subst h2
    exact rb51 (catO_tick hn.2.2) hl
  rw [if_neg h2]
  exact rbN h0 h1 h2 h3 h4 h5 h6 (hloop _ (good_none hV _))
theorem r10_BoundOf_eq {K : Nat} (hV : Uni V) {n : NodeA} (hf : Fine n) (hc : Cov V n) (hb : n.size ≤ big) (hK : KR V n K) : r10_BoundOf K n = some (bndR n) := by
  unfold r10_BoundOf r10_bound
  exact ob _ (bound_iter hV n K hf hc hb (by have := hK.2; omega) hK) rfl
end
end Go.Proofs.YtngmfimpaembnaaGreatDoor
