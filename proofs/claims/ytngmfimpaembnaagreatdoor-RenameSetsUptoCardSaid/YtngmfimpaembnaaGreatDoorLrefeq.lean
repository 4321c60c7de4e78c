/- Part of the proof of a law: contracts of the functions that the law reaches, or plain laws of them, out of the abstract layer (the texts YtngmfimpaembnaaGreatDoorIso..). No condition. -/
import Derived.Test.YtngmfimpaembnaaGreatDoorLrefvars
namespace Go.Proofs.YtngmfimpaembnaaGreatDoor
open Go Go.Iso Go.Proofs
set_option linter.unusedSimpArgs false
set_option linter.unusedVariables false
set_option maxRecDepth 100000
section
variable {V : List ByteArray}
def KR (V : List ByteArray) (n : NodeA) (K : Nat) : Prop := KOk V K ∧ n.size < K
theorem kr_kid {n k : NodeA} {K : Nat} (h : KR V n K) (hk : k ∈ n.kids) : KR V k K := ⟨h.1, by have := NodeA.size_lt hk; have := h.2; omega⟩
theorem only_eq {K : Nat} {x : ByteArray} : r10_only K x = some (oneS x) := nrfl rfl
def flowR (K : Nat) (C : ByteArray → ByteArray → Option ByteArray) (ks : List NodeA) : (Int × Api_NamesA → Option Api_NamesA) → Int × Api_NamesA → Option Api_NamesA := fun again x =>
  if decide (x.1 < (ks.length : Int)) then ((idx ks x.1).bind fun x26 => if (x26.op == (55 : Int)) then (r10_only K x26.name).bind fun r29 => (C x26.name (⟨#[39]⟩ : ByteArray)).bind fun s31 => (r10_only K s31).bind fun r33 => (r10_join K r29 r33).bind fun r35 => (r10_join K x.2 r35).bind fun r37 => some r37 else some x.2).bind fun v => again (IntKind.wrap .i64 (x.1 + (1 : Int)), v) else some x.2
theorem flow_loop {K : Nat} {ks : List NodeA} {C : ByteArray → ByteArray → Option ByteArray} (hC : ∀ x : ByteArray, x.size < 100 → C x tick = some (x ++ tick)) (hV : Uni V) (hk : ∀ k ∈ ks, Fine k ∧ Cov V k) (hK : KOk V K) (hL : ks.length < K) (hb : ks.length ≤ big) :
    iter K (flowR K C ks) (0, noneS) = some (ks.foldl flowM noneS) := by
  unfold big at hb
  refine foldG ks.length (fun i => ((i : Int), (ks.take i).foldl flowM noneS)) _ (fun g i hi => ?_) (fun g => ?_) (by omega) rfl
  · have hx : ks[i]? = some ks[i] := List.getElem?_eq_getElem hi
    have hm := List.getElem_mem hi
    obtain ⟨hf, hc⟩ := hk _ hm
    have et : ks.take (i + 1) = ks.take i ++ [ks[i]] := by rw [List.take_add_one, hx]; rfl
    have hg := good_flow (ks := ks.take i) hV (fun k hk' => hk k (List.mem_of_mem_take hk')) _ (good_none hV false)
    obtain ⟨S, hS⟩ : ∃ S, S = (ks.take i).foldl flowM noneS := ⟨_, rfl⟩
    have hstep : (if (ks[i].op == (55 : Int)) then (r10_only K ks[i].name).bind fun r29 => (C ks[i].name (⟨#[39]⟩ : ByteArray)).bind fun s31 => (r10_only K s31).bind fun r33 => (r10_join K r29 r33).bind fun r35 => (r10_join K S r35).bind fun r37 => some r37 else some S) = some (flowM S ks[i]) := by
      rw [hS]
      cases h : ks[i].op == 55 with
      | false =>
        rw [if_neg (by simp)]
        have e : flowM ((ks.take i).foldl flowM noneS) ks[i] = (ks.take i).foldl flowM noneS := by rw [flowM, h]; rfl
        rw [e]
      | true =>
        have hn : namedS ks[i].op = true := named_b (by have := eq_of_beq h; omega)
        obtain ⟨g1, g2, g3⟩ := good_name hV hf hc hn
        have j1 := join_eq g1 g2 hK
        have j2 := join_eq hg (good_tk hV hf hc hn) hK
        have e : flowM ((ks.take i).foldl flowM noneS) ks[i] = unionS ((ks.take i).foldl flowM noneS) (unionS (oneS ks[i].name) (oneS (ks[i].name ++ tick))) := by rw [flowM, h]; rfl
        rw [if_pos rfl, e]
        exact ob _ only_eq (ob _ (hC _ g3) (ob _ only_eq (ob _ j1 (ob _ j2 rfl))))
    unfold flowR
    rw [if_pos (lt_tn hi)]
    refine ob (flowM S ks[i]) (ob ks[i] (by rw [idx_nat]; exact hx) ?_) ?_
    · rw [hS] at hstep ⊢; exact hstep
    · show g (IntKind.wrap .i64 ((i : Int) + 1), flowM S ks[i]) = g (((i + 1 : Nat) : Int), (ks.take (i + 1)).foldl flowM noneS)
      rw [w64s (by omega), et, List.foldl_append, ← hS]; rfl
  · unfold flowR
    rw [if_neg (by rw [lt_fn (Nat.le_refl ks.length)]; simp), List.take_length]
section
variable {K : Nat} {s : NodeA → Option Api_NamesA} {m : ByteArray} {r : RatA} {ks : List NodeA}
theorem rm50 {n : NodeA} (h : n.op = 50 ∨ n.op = 52) : r10_must_body K s n = some (oneS n.name) := by
  obtain ⟨op, m, r, ks⟩ := n
  simp only [NodeA.op_mk] at h
  unfold r10_must_body
  generalize catO = C
  rcases h with rfl | rfl <;> kernel_rfl
theorem rm51 {x : ByteArray} (hc : catO m tick = some x) : r10_must_body K s (.mk 51 m r ks) = some (oneS x) := by
  unfold r10_must_body
  simp only [NodeA.name_mk]
  generalize catO m ⟨#[39]⟩ = c at hc ⊢
  subst hc
  generalize catO = C
  kernel_rfl
theorem rm54 {u : Api_NamesA} (hu : iter K (flowR K catO ks) (0, noneS) = some u) : r10_must_body K s (.mk 54 m r ks) = some u := by
  unfold r10_must_body
  generalize catO = C at hu ⊢
  exact ob _ (Eq.trans (b := (iter K (flowR K C ks) (0, noneS)).bind fun e => outM (some e)) (by kernel_rfl) (ob _ hu rfl)) rfl
theorem rm57 {k0 k1 : NodeA} {a b u : Api_NamesA} (h0 : s k0 = some a) (h1 : s k1 = some b) (hu : r10_join K a b = some u) : r10_must_body K s (.mk 57 m r [k0, k1]) = some u := by
  unfold r10_must_body
  generalize catO = C
  exact ob _ (Eq.trans (b := (s k0).bind fun x => (s k1).bind fun y => (r10_join K x y).bind fun z => outM (some z)) (by kernel_rfl) (ob _ h0 (ob _ h1 (ob _ hu rfl)))) rfl
theorem rm58 {k0 k1 : NodeA} {a b u : Api_NamesA} (h0 : s k0 = some a) (h1 : s k1 = some b) (hu : r10_meet K a b = some u) : r10_must_body K s (.mk 58 m r [k0, k1]) = some u := by
  unfold r10_must_body
  generalize catO = C
  exact ob _ (Eq.trans (b := (s k0).bind fun x => (s k1).bind fun y => (r10_meet K x y).bind fun z => outM (some z)) (by kernel_rfl) (ob _ h0 (ob _ h1 (ob _ hu rfl)))) rfl
theorem rm60 {k0 : NodeA} {a : Api_NamesA} (h0 : s k0 = some a) : r10_must_body K s (.mk 60 m r [k0]) = some a := by
  unfold r10_must_body
  generalize catO = C
  exact ob _ (Eq.trans (b := (s k0).bind fun x => outM (some x)) (by kernel_rfl) (ob _ h0 rfl)) rfl
theorem rmN {n : NodeA} (h50 : n.op ≠ 50) (h52 : n.op ≠ 52) (h51 : n.op ≠ 51) (h54 : n.op ≠ 54) (h57 : n.op ≠ 57) (h58 : n.op ≠ 58) (h60 : n.op ≠ 60) : r10_must_body K s n = some noneS := by
  unfold r10_must_body
  rw [beq_eq_false_iff_ne.2 h50, beq_eq_false_iff_ne.2 h51, beq_eq_false_iff_ne.2 h52, beq_eq_false_iff_ne.2 h54, beq_eq_false_iff_ne.2 h57, beq_eq_false_iff_ne.2 h58, beq_eq_false_iff_ne.2 h60]
  generalize catO = C
  kernel_rfl
end
theorem must_iter {K : Nat} (hV : Uni V) : ∀ (n : NodeA) (j : Nat), Fine n → Cov V n → n.size ≤ big → n.size ≤ j → KR V n K → iter j (fun self q => r10_must_body K self q) n = some (mustS n) := by
  refine NodeA.ind fun n ih => ?_
  intro j hf hc hb hj hK
  have hp := n.size_pos
  have hkl := n.kids_lt
  obtain ⟨j, rfl⟩ : ∃ i, j = i + 1 := ⟨j - 1, by omega⟩
  rw [iter_succ, mustS_eq]
  have ih' : ∀ k ∈ n.kids, iter j (fun self q => r10_must_body K self q) k = some (mustS k) := fun k hk => ih k hk j (fine_kid hf hk) (cov_kid hc hk) (by have := NodeA.size_lt hk; omega) (by have := NodeA.size_lt hk; omega) (kr_kid hK hk)
  have hg : ∀ k ∈ n.kids, Good V (mustS k) := fun k hk => good_must hV k (fine_kid hf hk) (cov_kid hc hk)
  have hgn : namedS n.op = true → Good V (oneS n.name) ∧ Good V (oneS (n.name ++ tick)) ∧ n.name.size < 100 := good_name hV hf hc
  have hfl := flow_loop (K := K) (ks := n.kids) (C := catO) (fun x h => catO_tick h) hV (fun k hk => ⟨fine_kid hf hk, cov_kid hc hk⟩) hK.1 (by have := hK.2; omega) (by omega)
  have two := fun (h : sortsC n = [3, 3]) => sorts2 hf h
  have one := fun (h : sortsC n = [3]) => sorts1 hf h
  generalize iter j (fun self q => r10_must_body K self q) = S at ih' ⊢
  unfold mustB
  by_cases h1 : n.op = 50 ∨ n.op = 52
  · rw [if_pos h1]; exact rm50 h1
  rw [if_neg h1]
  by_cases h2 : n.op = 51
  · have hn := hgn (named_b (by omega))
    rw [if_pos h2]
    clear ih hj hp hkl hb hc hf two one hfl ih' hg hgn
    obtain ⟨op, m, r, ks⟩ := n
    simp only [NodeA.op_mk, NodeA.name_mk] at h2 hn ⊢
    subst h2
    exact rm51 (catO_tick hn.2.2)
  rw [if_neg h2]
  by_cases h3 : n.op = 54
  · rw [if_pos h3]
    clear ih hj hp hkl hb hc hf two one ih' hg hgn
    obtain ⟨op, m, r, ks⟩ := n
    simp only [NodeA.op_mk] at h3
    subst h3
    exact rm54 hfl
  rw [if_neg h3]
  by_cases h4 : n.op = 57
  · obtain ⟨k0, k1, hks, _, _⟩ := two (by unfold sortsC; rw [h4]; rfl)
    have m0 : k0 ∈ n.kids := by rw [hks]; simp
    have m1 : k1 ∈ n.kids := by rw [hks]; simp
    have q0 := ih' k0 m0; have q1 := ih' k1 m1
    have hj' := join_eq (hg k0 m0) (hg k1 m1) hK.1
    rw [if_pos h4]
    clear ih hj hp hkl hb hc hf two one ih' hg hgn hfl m0 m1
    obtain ⟨op, m, r, ks⟩ := n
    simp only [NodeA.op_mk, NodeA.kids_mk] at h4 hks ⊢
    subst h4 hks
    exact rm57 q0 q1 hj'
  rw [if_neg h4]
  by_cases h5 : n.op = 58
  · obtain ⟨k0, k1, hks, _, _⟩ := two (by unfold sortsC; rw [h5]; rfl)
    have m0 : k0 ∈ n.kids := by rw [hks]; simp
    have m1 : k1 ∈ n.kids := by rw [hks]; simp
    have q0 := ih' k0 m0; have q1 := ih' k1 m1
    have hj' := meet_eq (hg k0 m0) (hg k1 m1) hK.1
    rw [if_pos h5]
    clear ih hj hp hkl hb hc hf two one ih' hg hgn hfl m0 m1
    obtain ⟨op, m, r, ks⟩ := n
    simp only [NodeA.op_mk, NodeA.kids_mk] at h5 hks ⊢
    subst h5 hks
    exact rm58 q0 q1 hj'
  rw [if_neg h5]
  by_cases h6 : n.op = 60
  · obtain ⟨k0, hks, _⟩ := one (by unfold sortsC; rw [h6]; rfl)
    have m0 : k0 ∈ n.kids := by rw [hks]; simp
    have q0 := ih' k0 m0
    rw [if_pos h6]
    clear ih hj hp hkl hb hc hf two one ih' hg hgn hfl m0
    obtain ⟨op, m, r, ks⟩ := n
    simp only [NodeA.op_mk, NodeA.kids_mk] at h6 hks ⊢
    subst h6 hks
    exact rm60 q0
  rw [if_neg h6]
  exact rmN (fun h => h1 (.inl h)) (fun h => h1 (.inr h)) h2 h3 h4 h5 h6
theorem r10_must_eq {K : Nat} (hV : Uni V) {n : NodeA} (hf : Fine n) (hc : Cov V n) (hb : n.size ≤ big) (hK : KR V n K) : r10_must K n = some (mustS n) := must_iter hV n K hf hc hb (by have := hK.2; omega) hK
end
end Go.Proofs.YtngmfimpaembnaaGreatDoor
