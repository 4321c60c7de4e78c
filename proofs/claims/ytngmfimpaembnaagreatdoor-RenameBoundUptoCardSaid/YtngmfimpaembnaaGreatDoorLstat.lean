/- Part of the proof of a law: contracts of the functions that the law reaches, or plain laws of them, out of the abstract layer (the texts YtngmfimpaembnaaGreatDoorIso..). No condition. -/
import Derived.Test.YtngmfimpaembnaaGreatDoorLread
import Derived.Test.YtngmfimpaembnaaGreatDoorPb
namespace Go.Proofs.YtngmfimpaembnaaGreatDoor
open Go Go.Iso Go.Proofs
set_option linter.unusedSimpArgs false
set_option linter.unusedVariables false
set_option maxRecDepth 100000
/-! ### The program's sets of variables are the reference's -/
theorem sort_tab0 : ((List.range 63).all fun k => (!(sortS (k : Int) == 1) || decide (k ≤ 13)) && (!(sortS (k : Int) == 2) || decide (20 ≤ k) && decide (k ≤ 39)) && (!(decide (3 ≤ sortS (k : Int))) || decide (50 ≤ k) && decide (k ≤ 62))) = true := by decide +kernel
theorem sort_tab {op : Int} (h : sortS op ≠ 0) : (sortS op = 1 → op ≤ 13) ∧ (sortS op = 2 → 20 ≤ op ∧ op ≤ 39) ∧ (3 ≤ sortS op → 50 ≤ op ∧ op ≤ 62) := by
  obtain ⟨k, hk, rfl⟩ := sort_range h
  have := List.all_eq_true.1 sort_tab0 k (List.mem_range.2 hk)
  simp only [Bool.and_eq_true, Bool.or_eq_true, Bool.not_eq_true', beq_eq_false_iff_ne, ne_eq, decide_eq_true_eq, decide_eq_false_iff_not] at this
  obtain ⟨⟨h1, h2⟩, h3⟩ := this
  refine ⟨fun e => ?_, fun e => ?_, fun e => ?_⟩
  · rcases h1 with h1 | h1
    · exact absurd e h1
    · omega
  · rcases h2 with h2 | h2
    · exact absurd e h2
    · omega
  · rcases h3 with h3 | h3
    · exact absurd e h3
    · omega
section
variable {V : List ByteArray}
theorem unL_allB : ∀ {l : List Api_NamesA} {s : Api_NamesA}, (unL s l).all = (s.all || l.any fun x => x.all)
  | [], s => by simp [unL]
  | x :: l, s => by
    show (unL (unionS s x) l).all = _
    rw [unL_allB, union_all, List.any_cons, Bool.or_assoc]
theorem unL_nones {L : List Api_NamesA} (h : ∀ x ∈ L, x = noneS) {A : Api_NamesA} (hA : Good V A) : unL A L = A := by
  have hL : ∀ x ∈ L, Good V x := fun x hx => by rw [h x hx]; exact good_none hA.uni false
  refine good_ext (good_unL hA hL) hA ?_ fun v => ?_
  · rw [unL_allB]
    have : (L.any fun x => x.all) = false := by
      rw [List.any_eq_false]; intro x hx; rw [h x hx]; simp
    rw [this, Bool.or_false]
  · rw [Bool.eq_iff_iff, unL_in hA hL]
    constructor
    · rintro (h1 | ⟨x, hx, h1⟩)
      · exact h1
      · rw [h x hx, in_none] at h1; cases h1
    · exact .inl
theorem unL_absorb {S L : List Api_NamesA} (hV : Uni V) (hS : ∀ x ∈ S, Good V x) (hL : ∀ x ∈ L, Good V x) (h : ∀ x ∈ S, ∃ y ∈ L, (x.all = true → y.all = true) ∧ ∀ v, inS x v = true → inS y v = true) : unL (unL noneS S) L = unL noneS L := by
  have h0 := good_none hV false
  refine good_ext (good_unL (good_unL h0 hS) hL) (good_unL h0 hL) ?_ fun v => ?_
  · rw [unL_allB, unL_allB, unL_allB]
    simp only [Bool.false_or]
    cases hs : S.any fun x => x.all with
    | false => rfl
    | true =>
      obtain ⟨x, hx, hxa⟩ := List.any_eq_true.1 hs
      obtain ⟨y, hy, hya, _⟩ := h x hx
      rw [List.any_eq_true.2 ⟨y, hy, hya hxa⟩]; rfl
  · rw [Bool.eq_iff_iff, unL_in (good_unL h0 hS) hL, unL_in h0 hL, unL_in h0 hS]
    constructor
    · rintro ((h1 | ⟨x, hx, h1⟩) | h1)
      · exact .inl h1
      · obtain ⟨y, hy, _, h2⟩ := h x hx; exact .inr ⟨y, hy, h2 v h1⟩
      · exact .inr h1
    · exact fun h1 => h1.imp .inl id
structure StB (V : List ByteArray) (n : NodeA) : Prop where
  b : bndS V n = bndR n
  e : evS V n = anyS n
  sa : (bndR n).all = true → (anyS n).all = true
  si : ∀ v, inS (bndR n) v = true → inS (anyS n) v = true
theorem stat_bnd (hV : Uni V) : ∀ n : NodeA, Fine n → Cov V n → n.size ≤ big → sortS n.op ≠ 0 → StB V n := by
  refine NodeA.ind fun n ih => ?_
  intro hf hc hb hs0
  have hks : ∀ k ∈ n.kids, sortS k.op ≠ 0 := fun k hk h0 => by
    have h1 := fine_sorts hf
    have h2 : sortS k.op ∈ sortsC n := h1 ▸ List.mem_map_of_mem (f := fun x : NodeA => sortS x.op) hk
    rw [h0] at h2
    unfold sortsC at h2
    split at h2
    · have := List.eq_of_mem_replicate h2; omega
    split at h2
    · rcases List.mem_append.1 h2 with h2 | h2
      · have := List.eq_of_mem_replicate h2; omega
      · rw [List.mem_singleton] at h2; omega
    · obtain ⟨k, hk, ho⟩ := sort_range hs0
      rw [ho] at h2
      have t : ((List.range 63).all fun k => !(((sortsS (k : Int)).getD []).contains 0)) = true := by decide +kernel
      have := List.all_eq_true.1 t k (List.mem_range.2 hk)
      rw [Bool.not_eq_true'] at this
      rw [List.contains_iff_mem.2 h2] at this; cases this
  have hk : ∀ k ∈ n.kids, StB V k := fun k h => ih k h (fine_kid hf h) (cov_kid hc h) (by have := NodeA.size_lt h; omega) (hks k h)
  have hB : n.kids.map (bndS V) = n.kids.map bndR := List.map_congr_left fun k h => (hk k h).b
  have hE : n.kids.map (evS V) = n.kids.map anyS := List.map_congr_left fun k h => (hk k h).e
  have gB : ∀ x ∈ n.kids.map bndR, Good V x := fun x hx => by obtain ⟨k, h, rfl⟩ := List.mem_map.1 hx; exact good_bndR hV k (fine_kid hf h) (cov_kid hc h)
  have gA : ∀ x ∈ n.kids.map anyS, Good V x := fun x hx => by obtain ⟨k, h, rfl⟩ := List.mem_map.1 hx; exact good_any hV k (fine_kid hf h) (cov_kid hc h)
  have gbn := good_bndR hV n hf hc
  have gan := good_any hV n hf hc
  obtain ⟨⟨_, e1⟩, _, e2⟩ := bound_ev hV n hf hc hb
  obtain ⟨t1, t2, t3⟩ := sort_tab hs0
  by_cases s1 : sortS n.op = 1
  · have hop := t1 s1
    have hkn : ∀ k ∈ n.kids, bndR k = noneS := fun k h => by
      have hk1 : sortS k.op = 1 := by
        have h1 := fine_sorts hf
        have h2 : sortS k.op ∈ sortsC n := h1 ▸ List.mem_map_of_mem (f := fun x : NodeA => sortS x.op) h
        unfold sortsC at h2
        split at h2
        · exact List.eq_of_mem_replicate h2
        split at h2
        · next h3 => have : n.op = 54 := eq_of_beq h3; omega
        · obtain ⟨k', hk', ho⟩ := sort_range hs0
          rw [ho] at h2
          have t : ((List.range 63).all fun k => !(sortS (k : Int) == 1) || ((sortsS (k : Int)).getD []).all fun z => z == 1) = true := by decide +kernel
          have := List.all_eq_true.1 t k' (List.mem_range.2 hk')
          rw [← ho, s1] at this
          simp only [beq_self_eq_true, Bool.not_true, Bool.false_or, List.all_eq_true, beq_iff_eq] at this
          rw [← ho] at h2
          exact this _ h2
      rw [← (hk k h).b, (bound_ev hV k (fine_kid hf h) (cov_kid hc h) (by have := NodeA.size_lt h; omega)).1.2]
      unfold bndE; rw [if_pos hk1]
    have b1 : bndS V n = noneS := by rw [e1]; unfold bndE; rw [if_pos s1]
    have b2 : bndR n = noneS := by
      rw [bndR_eq]; unfold boundB
      rw [if_neg (by omega), if_neg (by omega), if_neg (by omega), if_neg (by omega), if_neg (by omega), if_neg (by omega), if_neg (by omega)]
      exact unL_nones (V := V) (fun x hx => by obtain ⟨k, h, rfl⟩ := List.mem_map.1 hx; exact hkn k h) (good_none hV false)
    refine ⟨b1.trans b2.symm, ?_, fun h => (by rw [b2] at h; cases h), fun v h => (by rw [b2, in_none] at h; cases h)⟩
    rw [e2, anyS_eq]; unfold evE anyB
    rw [if_neg (by omega), if_neg (by omega), if_neg (by omega), if_neg (by omega), if_neg (by omega), if_neg (by omega), hE]
  by_cases s2 : sortS n.op = 2
  · have hop := t2 s2
    have he : evS V n = anyS n := by
      rw [e2, anyS_eq]; unfold evE anyB
      rw [hE]
      by_cases h3 : n.op = 33 ∨ n.op = 34
      · rw [if_pos h3, if_pos (by omega)]
      · rw [if_neg h3, if_neg (by omega), if_neg (by omega), if_neg (by omega), if_neg (by omega), if_neg (by omega)]
    have b2 : bndR n = anyS n := by rw [bndR_eq]; unfold boundB; rw [if_pos s2]
    refine ⟨?_, he, fun h => by rw [← b2]; exact h, fun v h => by rw [← b2]; exact h⟩
    rw [e1, b2]; unfold bndE; rw [if_neg s1, if_pos s2, he]
  have s3 : 3 ≤ sortS n.op := by rcases sort_cases n.op with h | h | h | h | h <;> omega
  have hop := t3 s3
  have bE : bndS V n = bndR n := by
    rw [e1, bndR_eq]; unfold bndE boundB
    rw [if_neg s1, if_neg s2, if_neg s2, hB]
    have leaf : ∀ {A : Api_NamesA}, Good V A → (∀ k ∈ n.kids, sortS k.op = 1) → unL A (n.kids.map bndR) = A := fun gA' h => unL_nones (fun x hx => by
      obtain ⟨k, hk', rfl⟩ := List.mem_map.1 hx
      rw [← (hk k hk').b, (bound_ev hV k (fine_kid hf hk') (cov_kid hc hk') (by have := NodeA.size_lt hk'; omega)).1.2]
      unfold bndE; rw [if_pos (h k hk')]) gA'
    by_cases h50 : n.op = 50 ∨ n.op = 52
    · have g := (good_name hV hf hc (named_b (by omega))).1
      rw [if_pos h50, if_neg (by omega), if_neg (by omega), if_neg (by omega), if_neg (by omega), if_pos h50]
      refine (leaf g fun k hk' => ?_).symm
      rcases h50 with h | h
      · obtain ⟨k0, hks', hk0⟩ := sorts1 (a := 1) hf (by unfold sortsC; rw [h]; rfl)
        rw [hks', List.mem_singleton] at hk'; rw [hk']; exact hk0
      · have := fine_len hf
        have e : (sortsC n).length = 0 := by unfold sortsC; rw [h]; rfl
        rw [e] at this
        rw [List.eq_nil_of_length_eq_zero this] at hk'; cases hk'
    rw [if_neg h50]
    by_cases h51 : n.op = 51
    · have g := (good_name hV hf hc (named_b (by omega))).2.1
      rw [if_pos h51, if_neg (by omega), if_neg (by omega), if_neg (by omega), if_neg (by omega), if_neg (by omega), if_pos h51]
      refine (leaf g fun k hk' => ?_).symm
      obtain ⟨k0, hks', hk0⟩ := sorts1 (a := 1) hf (by unfold sortsC; rw [h51]; rfl)
      rw [hks', List.mem_singleton] at hk'; rw [hk']; exact hk0
    rw [if_neg h51]
    by_cases h53 : n.op = 53
    · rw [if_pos h53, if_neg (by omega), if_neg (by omega), if_pos h53]
    rw [if_neg h53]
    by_cases h55 : n.op = 55
    · rw [if_pos h55, if_pos h55]
    rw [if_neg h55, if_neg h55]
    by_cases h56 : n.op = 56 ∨ n.op = 61 ∨ n.op = 62
    · rw [if_pos h56, if_pos h56]
    rw [if_neg h56, if_neg h56, if_neg h53]
    by_cases h54 : n.op = 54
    · rw [if_pos h54, if_pos h54, List.length_map, List.map_take, hB]
    rw [if_neg h54, if_neg h54, if_neg h50, if_neg h51]
  have own : evE V n = unL (bndR n) (n.kids.map anyS) := by
    unfold evE; rw [if_neg (by omega), if_pos s3, bE, hE]
  have aE : evS V n = anyS n := by
    rw [e2, own, anyS_eq, bndR_eq]; unfold boundB anyB
    rw [if_neg s2]
    have leaf : ∀ {A : Api_NamesA}, Good V A → (∀ k ∈ n.kids, sortS k.op = 1) → unL A (n.kids.map bndR) = A := fun gA' h => unL_nones (fun x hx => by
      obtain ⟨k, hk', rfl⟩ := List.mem_map.1 hx
      rw [← (hk k hk').b, (bound_ev hV k (fine_kid hf hk') (cov_kid hc hk') (by have := NodeA.size_lt hk'; omega)).1.2]
      unfold bndE; rw [if_pos (h k hk')]) gA'
    by_cases h55 : n.op = 55
    · rw [if_pos h55, if_neg (by omega), if_neg (by omega), if_pos h55]
    rw [if_neg h55]
    by_cases h56 : n.op = 56 ∨ n.op = 61 ∨ n.op = 62
    · rw [if_pos h56, if_neg (by omega), if_neg (by omega), if_neg (by omega), if_pos h56]
    rw [if_neg h56]
    by_cases h53 : n.op = 53
    · rw [if_pos h53, if_neg (by omega), if_neg (by omega), if_neg (by omega), if_neg (by omega)]
    rw [if_neg h53]
    have abs : ∀ S : List NodeA, (∀ k ∈ S, k ∈ n.kids) → unL (unL noneS (S.map bndR)) (n.kids.map anyS) = unL noneS (n.kids.map anyS) := fun S hS => unL_absorb hV (fun x hx => by obtain ⟨k, h, rfl⟩ := List.mem_map.1 hx; exact gB _ (List.mem_map_of_mem (hS k h))) gA fun x hx => by
      obtain ⟨k, h, rfl⟩ := List.mem_map.1 hx
      exact ⟨_, List.mem_map_of_mem (hS k h), (hk k (hS k h)).sa, (hk k (hS k h)).si⟩
    by_cases h54 : n.op = 54
    · rw [if_pos h54, if_neg (by omega), if_neg (by omega), if_neg (by omega), if_neg (by omega), ← List.map_take]
      exact abs _ fun k h => List.mem_of_mem_take h
    rw [if_neg h54]
    by_cases h50 : n.op = 50 ∨ n.op = 52
    · have g := (good_name hV hf hc (named_b (by omega))).1
      rw [if_pos h50, if_pos (by omega)]
      rw [leaf g fun k hk' => ?_]
      rcases h50 with h | h
      · obtain ⟨k0, hks', hk0⟩ := sorts1 (a := 1) hf (by unfold sortsC; rw [h]; rfl)
        rw [hks', List.mem_singleton] at hk'; rw [hk']; exact hk0
      · have := fine_len hf
        have e : (sortsC n).length = 0 := by unfold sortsC; rw [h]; rfl
        rw [e] at this
        rw [List.eq_nil_of_length_eq_zero this] at hk'; cases hk'
    rw [if_neg h50]
    by_cases h51 : n.op = 51
    · have g := (good_name hV hf hc (named_b (by omega))).2.1
      rw [if_pos h51, if_neg (by omega), if_pos h51]
      rw [leaf g fun k hk' => ?_]
      obtain ⟨k0, hks', hk0⟩ := sorts1 (a := 1) hf (by unfold sortsC; rw [h51]; rfl)
      rw [hks', List.mem_singleton] at hk'; rw [hk']; exact hk0
    rw [if_neg h51, if_neg (by omega), if_neg h51, if_neg h55, if_neg h56]
    exact abs _ fun k h => h
  refine ⟨bE, aE, fun h => ?_, fun v h => ?_⟩
  · rw [← aE, e2, own, unL_allB, h]; rfl
  · rw [← aE, e2, own, unL_in gbn gA]; exact .inl h
theorem stat_BoundOf {K : Nat} (hV : Uni V) {n : NodeA} (hf : Fine n) (hc : Cov V n) (hb : n.size ≤ big) (hs : sortS n.op ≠ 0) (hK : KS V n K) : static_BoundOf K n = some (bndR n) := by
  have h := (bound_ev hV n hf hc hb).1.1.2 K K hK (by have := hK.2; omega)
  rw [(stat_bnd hV n hf hc hb hs).b] at h
  exact h
/-! ### Must-bound variables -/
theorem fold_flow : ∀ (ks : List NodeA) (s : Api_NamesA), (∀ k ∈ ks, k.op = 55 → bndS V k = unionS (oneS k.name) (oneS (k.name ++ tick))) → unL s ((ks.filter fun k => k.op == 55).map (bndS V)) = ks.foldl flowM s
  | [], s, _ => rfl
  | k :: ks, s, h => by
    have ih := fun s => fold_flow ks s (fun z hz => h z (List.mem_cons_of_mem _ hz))
    rw [List.foldl_cons, List.filter_cons]
    cases h55 : k.op == 55 with
    | true =>
      have e : flowM s k = unionS s (bndS V k) := by rw [h k (List.mem_cons_self ..) (eq_of_beq h55)]; unfold flowM; rw [h55]; rfl
      rw [e, ← ih]; rfl
    | false =>
      have e : flowM s k = s := by unfold flowM; rw [h55]; rfl
      rw [e, ← ih]; rfl
theorem bnd_names (hV : Uni V) {n : NodeA} (hf : Fine n) (hc : Cov V n) (hb : n.size ≤ big) : (n.op = 50 ∨ n.op = 52 → bndS V n = oneS n.name) ∧ (n.op = 51 → bndS V n = oneS (n.name ++ tick)) ∧ (n.op = 55 → bndS V n = unionS (oneS n.name) (oneS (n.name ++ tick))) := by
  have e := (bound_ev hV n hf hc hb).1.2
  refine ⟨fun h => ?_, fun h => ?_, fun h => ?_⟩
  · rw [e]; unfold bndE
    have hs : sortS n.op = 3 := by rw [sort34 (by omega) (by omega), if_neg (by omega)]
    rw [if_neg (by omega), if_neg (by omega), if_pos h]
  · rw [e]; unfold bndE
    have hs : sortS n.op = 3 := by rw [sort34 (by omega) (by omega), if_neg (by omega)]
    rw [if_neg (by omega), if_neg (by omega), if_neg (by omega), if_pos h]
  · rw [e]; unfold bndE
    have hs : sortS n.op = 4 := by rw [sort34 (by omega) (by omega), if_pos (by omega)]
    rw [if_neg (by omega), if_neg (by omega), if_neg (by omega), if_neg (by omega), if_neg (by omega), if_pos h]
theorem stat_must (hV : Uni V) : ∀ n : NodeA, Fine n → Cov V n → n.size ≤ big → IsM V n.size n (mustS n) := by
  refine NodeA.ind fun n ih => ?_
  intro hf hc hb
  have hk : ∀ k ∈ n.kids, IsM V k.size k (mustS k) := fun k hk => ih k hk (fine_kid hf hk) (cov_kid hc hk) (by have := NodeA.size_lt hk; omega)
  have hkB : ∀ k ∈ n.kids, IsB V (2 * k.size + 1) k (bndS V k) := fun k hk => (bound_ev hV k (fine_kid hf hk) (cov_kid hc hk) (by have := NodeA.size_lt hk; omega)).1.1
  have hB := (bound_ev hV n hf hc hb).1.1
  have hp := n.size_pos
  refine ⟨good_must hV n hf hc, fun K j hK hj => ?_⟩
  obtain ⟨j, rfl⟩ : ∃ i, j = i + 1 := ⟨j - 1, by omega⟩
  rw [iter_succ]
  obtain ⟨n1, n2, n3⟩ := bnd_names hV hf hc hb
  rw [mustS_eq]; unfold mustB
  by_cases h1 : n.op = 50 ∨ n.op = 52
  · rw [if_pos h1, ← n1 h1]
    exact mb50 (by omega) (hB.2 K K hK (by have := hK.2; omega))
  rw [if_neg h1]
  by_cases h51 : n.op = 51
  · rw [if_pos h51, ← n2 h51]
    exact mb50 (by omega) (hB.2 K K hK (by have := hK.2; omega))
  rw [if_neg h51]
  by_cases h54 : n.op = 54
  · rw [if_pos h54]
    have := must_loop hV hK hb hkB
    rw [fold_flow n.kids noneS fun k hk' h => (bnd_names hV (fine_kid hf hk') (cov_kid hc hk') (by have := NodeA.size_lt hk'; omega)).2.2 h] at this
    clear ih hk hkB hB n1 n2 n3
    obtain ⟨op, m, r, ks⟩ := n
    simp only [NodeA.op_mk, NodeA.kids_mk] at h54 this ⊢
    subst h54
    exact mb54 this
  rw [if_neg h54]
  have q : ∀ k ∈ n.kids, iter j (fun self q => static_MustOf_body K self q) k = some (mustS k) := fun k h => (hk k h).2 K j (ks_kid hK h) (by have := NodeA.size_lt h; omega)
  by_cases h57 : n.op = 57
  · rw [if_pos h57]
    obtain ⟨k0, k1, hks, e0, e1⟩ := sorts2 (a := 3) (b := 3) hf (by unfold sortsC; rw [h57]; rfl)
    have m0 : k0 ∈ n.kids := by rw [hks]; simp
    have m1 : k1 ∈ n.kids := by rw [hks]; simp
    have q0 := q k0 m0
    have q1 := q k1 m1
    have u := static_union_eq (hk k0 m0).1 (hk k1 m1).1 hK.1
    rw [hks]
    clear ih hk hkB hB n1 n2 n3 q
    obtain ⟨op, m, r, ks⟩ := n
    simp only [NodeA.op_mk, NodeA.kids_mk] at h57 hks
    subst h57 hks
    exact mb57 q0 q1 u
  rw [if_neg h57]
  by_cases h58 : n.op = 58
  · rw [if_pos h58]
    obtain ⟨k0, k1, hks, e0, e1⟩ := sorts2 (a := 3) (b := 3) hf (by unfold sortsC; rw [h58]; rfl)
    have m0 : k0 ∈ n.kids := by rw [hks]; simp
    have m1 : k1 ∈ n.kids := by rw [hks]; simp
    have q0 := q k0 m0
    have q1 := q k1 m1
    have u := static_meet_eq (hk k0 m0).1 (hk k1 m1).1 hK.1
    rw [hks]
    clear ih hk hkB hB n1 n2 n3 q
    obtain ⟨op, m, r, ks⟩ := n
    simp only [NodeA.op_mk, NodeA.kids_mk] at h58 hks
    subst h58 hks
    exact mb58 q0 q1 u
  rw [if_neg h58]
  by_cases h60 : n.op = 60
  · rw [if_pos h60]
    obtain ⟨k0, hks, e0⟩ := sorts1 (a := 3) hf (by unfold sortsC; rw [h60]; rfl)
    have m0 : k0 ∈ n.kids := by rw [hks]; simp
    have q0 := q k0 m0
    rw [hks]
    clear ih hk hkB hB n1 n2 n3 q
    obtain ⟨op, m, r, ks⟩ := n
    simp only [NodeA.op_mk, NodeA.kids_mk] at h60 hks
    subst h60 hks
    exact mb60 q0
  rw [if_neg h60]
  exact mbN (by omega) h51 (by omega) h54 h57 h58 h60
/-! ### Free variables -/
theorem stat_primes {A : Api_NamesA} (ha : Good V A) {K : Nat} (hK : KOk V K) : static_primes K A = some (if A.all then allS else prmS A) := by
  obtain ⟨F, ⟨hF, hFK⟩, hform⟩ := static_primes_form ha
  rw [hFK K hK]
  congr 1
  cases hA : A.all with
  | true =>
    have := hFK K hK
    unfold static_primes static_everything at this
    rw [hA] at this
    exact (Option.some.inj this).symm
  | false =>
    obtain ⟨rfl, hgp⟩ := hform hA
    refine good_ext hF (good_prim ha) ?_ fun v => ?_
    · show (unionS A _).all = (prmS A).all
      rw [union_all, prm_all, hA]; rfl
    · rw [Bool.eq_iff_iff, union_in ha hgp, Bool.or_eq_true]
      show _ ↔ inS (prmS A) v = true
      rw [prm_in ha]
      have : inS ⟨false, sortB (primL A.list)⟩ v = true ↔ ∃ u ∈ A.list, tickB u = false ∧ v = u ++ tick := by
        unfold inS
        simp only [Bool.bne_false, pB_true, mem_sortB]
        unfold primL tickB
        simp only [List.mem_map, List.mem_filter, Bool.not_eq_true']
        exact ⟨fun ⟨u, ⟨h1, h2⟩, h3⟩ => ⟨u, h1, h2, h3.symm⟩, fun ⟨u, h1, h2, h3⟩ => ⟨u, ⟨h1, h2⟩, h3.symm⟩⟩
      rw [this]
theorem stat_free (hV : Uni V) : ∀ n : NodeA, Fine n → Cov V n → n.size ≤ big → IsF V n.size n (freeS n) := by
  refine NodeA.ind fun n ih => ?_
  intro hf hc hb
  have hk : ∀ k ∈ n.kids, IsF V k.size k (freeS k) := fun k hk => ih k hk (fine_kid hf hk) (cov_kid hc hk) (by have := NodeA.size_lt hk; omega)
  have hM : ∀ k ∈ n.kids, IsM V k.size k (mustS k) := fun k hk => stat_must hV k (fine_kid hf hk) (cov_kid hc hk) (by have := NodeA.size_lt hk; omega)
  have hp := n.size_pos
  have hkl := n.kids_lt
  have hgo : namedS n.op = true → Good V (oneS n.name) ∧ Good V (oneS (n.name ++ tick)) ∧ n.name.size < 100 := good_name hV hf hc
  refine ⟨good_free hV n hf hc, fun K j hK hj => ?_⟩
  obtain ⟨j, rfl⟩ : ∃ i, j = i + 1 := ⟨j - 1, by omega⟩
  rw [iter_succ]
  have gF : ∀ x ∈ n.kids.map freeS, Good V x := fun x hx => by obtain ⟨k, h, rfl⟩ := List.mem_map.1 hx; exact (hk k h).1
  have loop : ∀ s0, Good V s0 → iter K (kidsR K (iter j (fun self q => static_FreeOf_body K self q)) n.kids) (0, s0) = some (unL s0 (n.kids.map freeS)) := fun s0 h0 =>
    kids_eq (V := V) n.kids freeS (fun x hx => (hk x hx).2 K j (ks_kid hK hx) (by have := NodeA.size_lt hx; omega)) (fun x hx => (hk x hx).1) h0 hK.1 (by have := hK.2; omega) (by omega)
  have q : ∀ k ∈ n.kids, iter j (fun self q => static_FreeOf_body K self q) k = some (freeS k) := fun k h => (hk k h).2 K j (ks_kid hK h) (by have := NodeA.size_lt h; omega)
  have qm : ∀ k ∈ n.kids, static_MustOf K k = some (mustS k) := fun k h => (hM k h).2 K K (ks_kid hK h) (by have := (ks_kid hK h).2; omega)
  rw [freeS_eq]; unfold freeB
  by_cases h2 : n.op = 2
  · rw [if_pos h2]
    clear ih hk hM hgo loop q qm gF
    obtain ⟨op, m, r, ks⟩ := n
    simp only [NodeA.op_mk] at h2
    subst h2
    exact fb2
  rw [if_neg h2]
  by_cases h3 : n.op = 3
  · rw [if_pos h3]
    have hg := hgo (named_b (by omega))
    clear ih hk hM hgo loop q qm gF
    obtain ⟨op, m, r, ks⟩ := n
    simp only [NodeA.op_mk, NodeA.name_mk] at h3 hg ⊢
    subst h3
    exact fb3 (catO_tick hg.2.2)
  rw [if_neg h3]
  by_cases hA : n.op = 11 ∨ n.op = 38 ∨ n.op = 61 ∨ n.op = 62 ∨ n.op = 56
  · rw [if_pos hA]; exact fbA hA
  rw [if_neg hA]
  by_cases h12 : n.op = 12 ∨ n.op = 39
  · rw [if_pos h12]
    obtain ⟨k0, hks⟩ : ∃ k0, n.kids = [k0] := by
      rcases h12 with h | h
      · obtain ⟨k0, hks, _⟩ := sorts1 (a := 1) hf (by unfold sortsC; rw [h]; rfl)
        exact ⟨k0, hks⟩
      · obtain ⟨k0, hks, _⟩ := sorts1 (a := 2) hf (by unfold sortsC; rw [h]; rfl)
        exact ⟨k0, hks⟩
    have m0 : k0 ∈ n.kids := by rw [hks]; simp
    have q0 := q k0 m0
    have q1 := stat_primes (hk k0 m0).1 hK.1
    rw [hks]
    clear ih hk hM hgo loop q qm gF
    obtain ⟨op, m, r, ks⟩ := n
    simp only [NodeA.op_mk, NodeA.kids_mk] at h12 hks
    subst hks
    exact fb12 h12 q0 q1
  rw [if_neg h12]
  by_cases h33 : n.op = 33 ∨ n.op = 34
  · rw [if_pos h33]
    obtain ⟨k0, hks⟩ : ∃ k0, n.kids = [k0] := by
      rcases h33 with h | h
      · obtain ⟨k0, hks, _⟩ := sorts1 (a := 2) hf (by unfold sortsC; rw [h]; rfl)
        exact ⟨k0, hks⟩
      · obtain ⟨k0, hks, _⟩ := sorts1 (a := 2) hf (by unfold sortsC; rw [h]; rfl)
        exact ⟨k0, hks⟩
    have m0 : k0 ∈ n.kids := by rw [hks]; simp
    have hg := hgo (named_b (by omega))
    have q0 := q k0 m0
    have q1 := static_minus_eq (hk k0 m0).1 hg.1 hK.1
    rw [hks]
    clear ih hk hM hgo loop q qm gF
    obtain ⟨op, m, r, ks⟩ := n
    simp only [NodeA.op_mk, NodeA.kids_mk, NodeA.name_mk] at h33 hks q1 ⊢
    subst hks
    exact fb33 h33 q0 q1
  rw [if_neg h33]
  by_cases h57 : n.op = 35 ∨ n.op = 36 ∨ n.op = 57
  · rw [if_pos h57]
    obtain ⟨k0, k1, hks⟩ : ∃ k0 k1, n.kids = [k0, k1] := by
      rcases h57 with h | h | h
      · obtain ⟨k0, k1, hks, _⟩ := sorts2 (a := 3) (b := 2) hf (by unfold sortsC; rw [h]; rfl)
        exact ⟨k0, k1, hks⟩
      · obtain ⟨k0, k1, hks, _⟩ := sorts2 (a := 3) (b := 2) hf (by unfold sortsC; rw [h]; rfl)
        exact ⟨k0, k1, hks⟩
      · obtain ⟨k0, k1, hks, _⟩ := sorts2 (a := 3) (b := 3) hf (by unfold sortsC; rw [h]; rfl)
        exact ⟨k0, k1, hks⟩
    have m0 : k0 ∈ n.kids := by rw [hks]; simp
    have m1 : k1 ∈ n.kids := by rw [hks]; simp
    have i0 := (hk k0 m0).1
    have i1 := (hk k1 m1).1
    have iM := (hM k0 m0).1
    have q0 := q k0 m0
    have q1 := q k1 m1
    have qM := qm k0 m0
    have qd := static_minus_eq i1 iM hK.1
    have qu := static_union_eq i0 (good_minus i1 iM) hK.1
    rw [hks]
    clear ih hk hM hgo loop q qm gF
    obtain ⟨op, m, r, ks⟩ := n
    simp only [NodeA.op_mk, NodeA.kids_mk] at h57 hks
    subst hks
    exact fb57 h57 q0 q1 qM qd qu
  rw [if_neg h57]
  by_cases h55 : n.op = 55
  · rw [if_pos h55]
    have hg := hgo (named_b (by omega))
    have hl := loop _ hg.1
    have h0 := good_none hV false
    have e : unL (oneS n.name) (n.kids.map freeS) = unionS (unL noneS (n.kids.map freeS)) (oneS n.name) := by
      refine good_ext (good_unL hg.1 gF) (good_union (good_unL h0 gF) hg.1) ?_ fun v => ?_
      · rw [union_all, unL_allB, unL_allB]; simp
      · rw [Bool.eq_iff_iff, unL_in hg.1 gF, union_in (good_unL h0 gF) hg.1, Bool.or_eq_true, unL_in h0 gF]
        constructor
        · rintro (h | h)
          · exact .inr h
          · exact .inl (.inr h)
        · rintro ((h | h) | h)
          · rw [in_none] at h; cases h
          · exact .inr h
          · exact .inl h
    rw [← e]
    clear ih hk hM hgo loop q qm gF e
    obtain ⟨op, m, r, ks⟩ := n
    simp only [NodeA.op_mk, NodeA.kids_mk, NodeA.name_mk] at h55 hl ⊢
    subst h55
    rw [fb55, hl]; rfl
  rw [if_neg h55]
  by_cases h52 : n.op = 52
  · have e0 : n.kids = [] := by
      have := fine_len hf
      have e : (sortsC n).length = 0 := by unfold sortsC; rw [h52]; rfl
      rw [e] at this
      exact List.eq_nil_of_length_eq_zero this
    rw [e0]
    clear ih hk hM hgo loop q qm gF
    obtain ⟨op, m, r, ks⟩ := n
    simp only [NodeA.op_mk] at h52
    subst h52
    exact fb52
  rw [fbN h2 h3 (fun h => hA (.inl h)) (fun h => hA (.inr (.inl h))) (fun h => hA (.inr (.inr (.inl h)))) (fun h => hA (.inr (.inr (.inr (.inl h))))) (fun h => hA (.inr (.inr (.inr (.inr h))))) (fun h => h12 (.inl h)) (fun h => h12 (.inr h)) (fun h => h33 (.inl h)) (fun h => h33 (.inr h)) (fun h => h57 (.inl h)) (fun h => h57 (.inr (.inl h))) (fun h => h57 (.inr (.inr h))) h52 h55, loop _ (good_none hV _)]
  rfl
theorem stat_FreeOf {K : Nat} (hV : Uni V) {n : NodeA} (hf : Fine n) (hc : Cov V n) (hb : n.size ≤ big) (hK : KS V n K) : static_FreeOf K n = some (freeS n) :=
  (stat_free hV n hf hc hb).2 K K hK (by have := hK.2; omega)
end
end Go.Proofs.YtngmfimpaembnaaGreatDoor
namespace Go.Proofs.YtngmfimpaembnaaGreatDoor
open Go Go.Iso Go.Proofs
set_option linter.unusedSimpArgs false
set_option linter.unusedVariables false
set_option maxRecDepth 100000
/-! ### Searching in a sorted list -/
theorem mid_eq {i j : Nat} (h : i + j < 9223372036854775807) : IntKind.wrap .i64 (bShr .u64 (IntKind.wrap .u64 (IntKind.wrap .i64 ((i : Int) + (j : Int)))) (1 : Int)) = (((i + j) / 2 : Nat) : Int) := by
  have e0 : IntKind.wrap .i64 ((i : Int) + (j : Int)) = (i : Int) + (j : Int) := w64 (by omega) (by omega)
  rw [e0]
  have e : IntKind.wrap .u64 ((i : Int) + (j : Int)) = (i : Int) + (j : Int) := by
    unfold IntKind.wrap
    simp [IntKind.bits, IntKind.signed]
    omega
  rw [e]
  have e2 : bShr .u64 ((i : Int) + (j : Int)) 1 = (((i + j) / 2 : Nat) : Int) := by
    unfold bShr
    have : min (1 : Int).toNat (IntKind.bits .u64) = 1 := by decide
    rw [this, show ((2 : Int) ^ 1) = 2 by decide, Int.fdiv_eq_ediv_of_nonneg _ (by omega)]
    omega
  rw [e2, w64 (by omega) (by omega)]
theorem search_iter {K : Nat} {l : List ByteArray} {v : ByteArray} (hs : SP l) (hl : l.length ≤ topV) : ∀ (k i j : Nat), j - i < k → i ≤ j → j ≤ l.length →
    (∀ t (h : t < l.length), t < i → ltS l[t] v = true) → (∀ t (h : t < l.length), j ≤ t → ltS l[t] v = false) →
    ∃ r : Nat, iter (S := Int × Int) (R := Int) k (fun again (q : Int × Int) => 
      if (decide (q.1 < q.2)) then
        (must (decide ((0 : Int) ≤ (1 : Int)))).bind fun _ => 
        (sort_SearchStrings_1 K (IntKind.wrap .i64 (bShr .u64 (IntKind.wrap .u64 (IntKind.wrap .i64 (q.1 + q.2))) (1 : Int))) l v).bind fun r7 => 
        if (!r7) then
          again (IntKind.wrap .i64 ((IntKind.wrap .i64 (bShr .u64 (IntKind.wrap .u64 (IntKind.wrap .i64 (q.1 + q.2))) (1 : Int))) + (1 : Int)), q.2)
        else
          again (q.1, IntKind.wrap .i64 (bShr .u64 (IntKind.wrap .u64 (IntKind.wrap .i64 (q.1 + q.2))) (1 : Int)))
      else
        some q.1) ((i : Int), (j : Int)) = some (r : Int) ∧ r ≤ l.length ∧ (∀ t (h : t < l.length), t < r → ltS l[t] v = true) ∧ (∀ t (h : t < l.length), r ≤ t → ltS l[t] v = false) := by
  have ht : topV = 1000000000000 := rfl
  intro k
  induction k with
  | zero => intro i j h; omega
  | succ k ih =>
    intro i j hk hij hj h1 h2
    rw [iter_succ]
    by_cases e : i < j
    · have d : decide ((i : Int) < (j : Int)) = true := decide_eq_true (by omega)
      have hm : (i + j) / 2 < l.length := by omega
      have hx : l[(i + j) / 2]? = some l[(i + j) / 2] := List.getElem?_eq_getElem hm
      simp only [d, if_true, mid_eq (i := i) (j := j) (by omega)]
      unfold sort_SearchStrings_1
      simp only [must, decide_true, Int.reduceLE, if_true, Option.bind_some, idx_nat, hx]
      cases hlt : Op.bytesLess l[(i + j) / 2].toList v.toList with
      | true =>
        simp only [Bool.not_true, Bool.not_false, if_true]
        rw [w64s (by omega)]
        refine ih _ _ (by omega) (by omega) hj (fun t h ht => ?_) h2
        by_cases e2 : t = (i + j) / 2
        · subst e2; exact hlt
        · have h3 : ltS l[t] l[(i + j) / 2] = true := (List.pairwise_iff_getElem.1 hs) t _ h hm (by omega)
          exact lt_trans' h3 hlt
      | false =>
        simp only [Bool.not_false, Bool.not_true, Bool.false_eq_true, if_false]
        refine ih _ _ (by omega) (by omega) (by omega) h1 (fun t h ht => ?_)
        by_cases e2 : t = (i + j) / 2
        · subst e2; exact hlt
        · have h3 : ltS l[(i + j) / 2] l[t] = true := (List.pairwise_iff_getElem.1 hs) _ t hm h (by omega)
          cases h4 : ltS l[t] v with
          | false => rfl
          | true => exact absurd (lt_trans' h3 h4) (by rw [show ltS l[(i + j) / 2] v = false from hlt]; simp)
    · obtain rfl : i = j := by omega
      have d : decide ((i : Int) < (i : Int)) = false := by simp
      simp only [d, Bool.false_eq_true, if_false]
      exact ⟨i, rfl, hj, h1, h2⟩
theorem static_Has_eq {K : Nat} {V : List ByteArray} {A : Api_NamesA} {v : ByteArray} (h : Good V A) (hK : A.list.length < K) : static_Has K A v = some (inS A v) := by
  obtain ⟨r, hr, hle, h1, h2⟩ := search_iter (K := K) (v := v) h.sp h.lt K 0 A.list.length (by omega) (Nat.zero_le _) (Nat.le_refl _) (fun t _ h => by omega) (fun t h h' => by omega)
  have e0 : sort_SearchStrings K A.list v = some (r : Int) := by
    unfold sort_SearchStrings sort_Search_sort_SearchStrings_1
    exact ob _ (ob _ hr rfl) rfl
  unfold static_Has
  refine ob _ e0 ?_
  have hin : v ∈ A.list ↔ ∃ h : r < A.list.length, A.list[r] = v := by
    constructor
    · intro hv
      obtain ⟨t, ht, rfl⟩ := List.getElem_of_mem hv
      have : t = r := by
        rcases Nat.lt_trichotomy t r with h3 | h3 | h3
        · have := h1 t ht h3; rw [lt_irrefl'] at this; cases this
        · exact h3
        · have hrl : r < A.list.length := by omega
          have := h2 r hrl (Nat.le_refl _)
          rw [show ltS A.list[r] A.list[t] = true from (List.pairwise_iff_getElem.1 h.sp) r t hrl ht h3] at this; cases this
      subst this; exact ⟨ht, rfl⟩
    · rintro ⟨h3, rfl⟩; exact List.getElem_mem h3
  unfold inS
  by_cases hrl : r < A.list.length
  · have d : decide ((r : Int) < (A.list.length : Int)) = true := decide_eq_true (by omega)
    have hx : A.list[r]? = some A.list[r] := List.getElem?_eq_getElem hrl
    simp only [d, if_true, idx_nat, hx, Option.bind_some]
    have e : (A.list[r].toList == v.toList) = pB (v ∈ A.list) := by
      rw [Bool.eq_iff_iff, pB_true, hin, beq_iff_eq]
      constructor
      · intro h3; exact ⟨hrl, bytes_eq.1 (by rw [h3]; simp)⟩
      · rintro ⟨_, h3⟩; rw [h3]
    rw [e]; rfl
  · have d : decide ((r : Int) < (A.list.length : Int)) = false := decide_eq_false (by omega)
    simp only [d, Bool.false_eq_true, if_false]
    have e : pB (v ∈ A.list) = false := pB_false.2 fun h3 => hrl (hin.1 h3).1
    rw [e]; rfl
end Go.Proofs.YtngmfimpaembnaaGreatDoor
namespace Go.Proofs.YtngmfimpaembnaaGreatDoor
open Go Go.Iso Go.Proofs
set_option linter.unusedSimpArgs false
set_option linter.unusedVariables false
set_option maxRecDepth 100000
/-! ### Places in trees -/
def stepS : List Int → NodeA → Option NodeA
  | [], n => some n
  | i :: p, n => (idx n.kids i).bind (stepS p)
def putS : List Int → NodeA → NodeA → NodeA
  | [], _, w => w
  | i :: p, n, w => .mk n.op n.name n.num (n.kids.modify i.toNat fun k => putS p k w)
theorem step_le : ∀ {p : List Int} {n m : NodeA}, stepS p n = some m → m.size + p.length ≤ n.size ∧ m.lev + p.length ≤ n.lev
  | [], n, m, h => by obtain rfl := Option.some.inj h; simp
  | i :: p, n, m, h => by
    obtain ⟨k, hk, h⟩ := obind h
    have h1 := step_le h
    have hm := List.mem_of_getElem? (idx_some hk).2
    have h2 := NodeA.size_lt hm
    have h3 : k.lev < n.lev := by
      cases n with
      | mk o m' r ks =>
        rw [NodeA.lev_mk]
        have := (foldl_max_le (l := ks.map NodeA.lev) (v := (ks.map NodeA.lev).foldl max 0)).1 (Nat.le_refl _) _ (List.mem_map_of_mem hm)
        omega
    simp only [List.length_cons]; omega
theorem step_at : ∀ {p : List Int} {n m : NodeA} (P : NodeA → Prop), (∀ n, P n → ∀ k ∈ n.kids, P k) → P n → stepS p n = some m → P m
  | [], n, m, P, _, hn, h => by obtain rfl := Option.some.inj h; exact hn
  | i :: p, n, m, P, hP, hn, h => by
    obtain ⟨k, hk, h⟩ := obind h
    exact step_at P hP (hP n hn k (List.mem_of_getElem? (idx_some hk).2)) h
theorem idx_none {α : Type} {l : List α} {i : Int} : (decide (i < 0) || decide ((l.length : Int) ≤ i)) = (idx l i).isNone := by
  unfold idx
  by_cases h : 0 ≤ i
  · rw [if_pos h]
    have e : decide (i < 0) = false := decide_eq_false (by omega)
    rw [e, Bool.false_or]
    by_cases h2 : (l.length : Int) ≤ i
    · rw [decide_eq_true h2, List.getElem?_eq_none (by omega)]; rfl
    · rw [decide_eq_false h2, List.getElem?_eq_getElem (by omega)]; rfl
  · rw [if_neg h, decide_eq_true (by omega : i < 0)]; rfl
theorem walk_path {K : Nat} {p : List Int} (hb : p.length ≤ 9223372036854775807) {f : (Int × NodeA → Option (Out NodeA (NodeA × Bool))) → Int × NodeA → Option (Out NodeA (NodeA × Bool))}
    (h1 : ∀ g (i : Nat) n x, p[i]? = some x → f g ((i : Int), n) = match idx n.kids x with | some k => g (IntKind.wrap .i64 ((i : Int) + 1), k) | none => some (.out (zN, false)))
    (h2 : ∀ g n, f g ((p.length : Int), n) = some (.go n)) : ∀ (n : NodeA), p.length < K → iter K f (0, n) = some (match stepS p n with | some m => .go m | none => .out (zN, false)) := by
  have key : ∀ (d i K : Nat) (n : NodeA), p.length - i = d → i ≤ p.length → d < K → iter K f ((i : Int), n) = some (match stepS (p.drop i) n with | some m => .go m | none => .out (zN, false)) := by
    intro d
    induction d with
    | zero =>
      intro i K n hd hi hK
      obtain ⟨k, rfl⟩ : ∃ k, K = k + 1 := ⟨K - 1, by omega⟩
      obtain rfl : i = p.length := by omega
      rw [iter_succ, h2, List.drop_length]; rfl
    | succ d ih =>
      intro i K n hd hi hK
      obtain ⟨k, rfl⟩ : ∃ k, K = k + 1 := ⟨K - 1, by omega⟩
      have hi' : i < p.length := by omega
      have hx : p[i]? = some p[i] := List.getElem?_eq_getElem hi'
      rw [iter_succ, h1 _ i n _ hx, List.drop_eq_getElem_cons hi']
      show _ = some (match (idx n.kids p[i]).bind (stepS (p.drop (i + 1))) with | some m => _ | none => _)
      cases hk : idx n.kids p[i] with
      | none => rfl
      | some c =>
        simp only [Option.bind_some]
        rw [w64s (by omega), ih (i + 1) k c (by omega) (by omega) (by omega)]
  intro n hK
  exact key p.length 0 K n (by simp) (Nat.zero_le _) hK
theorem tree_step_eq {K : Nat} {p : List Int} (hK : p.length < K) (hb : p.length ≤ 9223372036854775807) (n : NodeA) : tree_step K n p = some ((stepS p n).getD zN, (stepS p n).isSome) := by
  unfold tree_step
  refine ob _ (walk_path hb (fun g i n x hx => ?_) (fun g n => ?_) n hK) ?_
  · have hi := (List.getElem?_eq_some_iff.1 hx).1
    simp only [lt_tn hi, if_true, idx_nat, hx, Option.bind_some, orO, idx_none]
    cases hk : idx n.kids x with
    | none => rfl
    | some c => rfl
  · simp only [lt_fn (Nat.le_refl p.length), Bool.false_eq_true, if_false]
  · cases stepS p n <;> rfl
theorem r08_at_eq {K : Nat} {p : List Int} (hK : p.length < K) (hb : p.length ≤ 9223372036854775807) (n : NodeA) : r08_at K n p = some ((stepS p n).getD zN, (stepS p n).isSome) := by
  unfold r08_at
  refine ob _ (walk_path hb (fun g i n x hx => ?_) (fun g n => ?_) n hK) ?_
  · have hi := (List.getElem?_eq_some_iff.1 hx).1
    simp only [lt_tn hi, if_true, idx_nat, hx, Option.bind_some, orO, idx_none]
    cases hk : idx n.kids x with
    | none => rfl
    | some c => rfl
  · simp only [lt_fn (Nat.le_refl p.length), Bool.false_eq_true, if_false]
  · cases stepS p n <;> rfl
/-! ### Copies -/
theorem copy_iter {K : Nat} : ∀ (n : NodeA) (j : Nat), FewN n → n.size ≤ j → n.size ≤ K → n.size ≤ big → iter j (fun self q => tree_Copy_body K self q) n = some n := by
  refine NodeA.ind fun n ih => ?_
  intro j hf hj hK hb
  have hp := n.size_pos
  have hkl := n.kids_lt
  obtain ⟨j, rfl⟩ : ∃ i, j = i + 1 := ⟨j - 1, by omega⟩
  rw [iter_succ]
  have ih' : ∀ k ∈ n.kids, iter j (fun self q => tree_Copy_body K self q) k = some k := fun k hk => ih k hk j (FewN_kid hf hk) (by have := NodeA.size_lt hk; omega) (by have := NodeA.size_lt hk; omega) (by have := NodeA.size_lt hk; omega)
  generalize iter j (fun self q => tree_Copy_body K self q) = S at ih' ⊢
  unfold tree_Copy_body
  unfold big at hb
  have hq := FewN_num hf
  refine ob _ (app_few' hq.1) (ob _ (app_few' hq.2) (ob n.kids (foldG n.kids.length (fun i => ((i : Int), n.kids.take i)) _ (fun g i hi => ?_) (fun g => ?_) (by omega) rfl) ?_))
  · have hx : n.kids[i]? = some n.kids[i] := List.getElem?_eq_getElem hi
    have hl : (n.kids.take i).length ≤ big := by rw [List.length_take]; unfold big; omega
    simp only [lt_tn hi, if_true, idx_nat, hx, Option.bind_some, ih' _ (List.getElem_mem hi), app_node hl]
    have et : n.kids.take (i + 1) = n.kids.take i ++ [n.kids[i]] := by rw [List.take_add_one, hx]; rfl
    rw [w64s (by omega), et]
  · simp only [lt_fn (Nat.le_refl n.kids.length), Bool.false_eq_true, if_false, List.take_length]
  · obtain ⟨o, m, ⟨a, b, c⟩, ks⟩ := n; rfl
theorem copy_eq {K : Nat} {n : NodeA} (hf : FewN n) (hK : n.size ≤ K) (hb : n.size ≤ big) : tree_Copy K n = some n := copy_iter n K hf hK hK hb
/-! ### Putting a tree into its place -/
theorem cut_tail {i : Int} {p : List Int} (hb : p.length ≤ big) : cutL (i :: p) (some 1) none = some p := by
  unfold cutL big at *
  simp only [Option.getD_some, Option.getD_none, List.length_cons]
  rw [if_pos (by omega)]
  simp
theorem mod_take {l : List NodeA} {i j : Nat} {f : NodeA → NodeA} (hi : i < l.length) : (l.modify j f).take (i + 1) = (l.modify j f).take i ++ [if i = j then f l[i] else l[i]] := by
  rw [List.take_add_one, List.getElem?_modify, List.getElem?_eq_getElem hi]
  by_cases h : j = i
  · subst h; simp
  · simp [h, show ¬ i = j from fun e => h e.symm]
theorem put_iter {K : Nat} {w : NodeA} (hw : FewN w) (hwK : w.size ≤ K) (hwb : w.size ≤ big) : ∀ (p : List Int) (n m : NodeA) (j : Nat), stepS p n = some m → FewN n → p.length < j → p.length ≤ big → n.size ≤ K → n.size ≤ big →
    iter j (fun self q => tree_put_body K self q.1 q.2.1 q.2.2) (n, p, w) = some (putS p n w)
  | [], n, m, j, hs, hf, hj, hpb, hK, hb => by
    obtain ⟨j, rfl⟩ : ∃ i, j = i + 1 := ⟨j - 1, by omega⟩
    rw [iter_succ]
    unfold tree_put_body
    simp only [List.length_nil, Int.natCast_zero, beq_self_eq_true, if_true, copy_eq hw hwK hwb, Option.bind_some]; rfl
  | x :: p, n, m, j, hs, hf, hj, hpb, hK, hb => by
    obtain ⟨c, hc, hs⟩ := obind hs
    obtain ⟨hx0, hx⟩ := idx_some hc
    have hp := n.size_pos
    have hkl := n.kids_lt
    simp only [List.length_cons] at hj hpb
    obtain ⟨j, rfl⟩ : ∃ i, j = i + 1 := ⟨j - 1, by omega⟩
    rw [iter_succ]
    have hcm := List.mem_of_getElem? hx
    have ih := put_iter hw hwK hwb p c m j hs (FewN_kid hf hcm) (by omega) (by omega) (by have := NodeA.size_lt hcm; omega) (by have := NodeA.size_lt hcm; omega)
    have hcopy : ∀ k ∈ n.kids, tree_Copy K k = some k := fun k hk => copy_eq (FewN_kid hf hk) (by have := NodeA.size_lt hk; omega) (by have := NodeA.size_lt hk; omega)
    generalize iter j (fun self q => tree_put_body K self q.1 q.2.1 q.2.2) = S at ih ⊢
    unfold tree_put_body
    unfold big at hb
    have e0 : (((x :: p).length : Int) == (0 : Int)) = false := int_ne0 (by simp)
    simp only [e0, Bool.false_eq_true, if_false]
    refine ob ((n.kids.modify x.toNat fun k => putS p k w)) (foldG n.kids.length (fun i => ((i : Int), (n.kids.modify x.toNat fun k => putS p k w).take i)) _ (fun g i hi => ?_) (fun g => ?_) (by omega) rfl) ?_
    · have hxi : n.kids[i]? = some n.kids[i] := List.getElem?_eq_getElem hi
      have hl : ((n.kids.modify x.toNat fun k => putS p k w).take i).length ≤ big := by rw [List.length_take, List.length_modify]; unfold big; omega
      have i0 : idx (x :: p) (0 : Int) = some x := rfl
      simp only [lt_tn hi, if_true, idx_nat, hxi, i0, Option.bind_some]
      rw [mod_take hi, w64s (by omega)]
      by_cases hix : i = x.toNat
      · have e1 : ((i : Int) == x) = true := by rw [beq_iff_eq]; omega
        have hci : n.kids[i] = c := by rw [← hix] at hx; rw [hxi] at hx; exact Option.some.inj hx
        simp only [e1, if_true, cut_tail (show p.length ≤ big by omega), Option.bind_some, hci, ih, app_node hl]
        rw [if_pos hix]
      · have e1 : ((i : Int) == x) = false := by rw [beq_eq_false_iff_ne]; omega
        simp only [e1, Bool.false_eq_true, if_false, hcopy _ (List.getElem_mem hi), Option.bind_some, app_node hl]
        rw [if_neg hix]
    · simp only [lt_fn (Nat.le_refl n.kids.length), Bool.false_eq_true, if_false]
      rw [List.take_of_length_le (by rw [List.length_modify]; exact Nat.le_refl _)]
    · have := copy_leaf (K := K) (op := 0) (m := ⟨#[]⟩) (r := n.num) (FewN_num hf) (by omega)
      rw [this]; rfl
theorem tree_put_eq {K : Nat} {w n m : NodeA} {p : List Int} (hw : FewN w) (hwK : w.size ≤ K) (hwb : w.size ≤ big) (hs : stepS p n = some m) (hf : FewN n) (hK : n.size ≤ K) (hb : n.size ≤ big) (hpK : p.length < K) (hpb : p.length ≤ big) : tree_put K n p w = some (putS p n w) :=
  put_iter hw hwK hwb p n m K hs hf hpK hpb hK hb
theorem rput_iter {K : Nat} {w : NodeA} : ∀ (p : List Int) (n m : NodeA) (j : Nat), stepS p n = some m → p.length < j → p.length ≤ big → n.size ≤ big →
    iter j (fun self q => r08_Put_body K self q.1 q.2.1 q.2.2) (n, p, w) = some (putS p n w)
  | [], n, m, j, hs, hj, hpb, hb => by
    obtain ⟨j, rfl⟩ : ∃ i, j = i + 1 := ⟨j - 1, by omega⟩
    rw [iter_succ]
    unfold r08_Put_body
    simp only [List.length_nil, Int.natCast_zero, beq_self_eq_true, if_true]; rfl
  | x :: p, n, m, j, hs, hj, hpb, hb => by
    obtain ⟨c, hc, hs⟩ := obind hs
    obtain ⟨hx0, hx⟩ := idx_some hc
    have hkl := n.kids_lt
    simp only [List.length_cons] at hj hpb
    obtain ⟨j, rfl⟩ : ∃ i, j = i + 1 := ⟨j - 1, by omega⟩
    rw [iter_succ]
    have hcm := List.mem_of_getElem? hx
    have ih := rput_iter (K := K) (w := w) p c m j hs (by omega) (by omega) (by have := NodeA.size_lt hcm; omega)
    generalize iter j (fun self q => r08_Put_body K self q.1 q.2.1 q.2.2) = S at ih ⊢
    unfold r08_Put_body
    unfold big at hb
    have e0 : (((x :: p).length : Int) == (0 : Int)) = false := int_ne0 (by simp)
    simp only [e0, Bool.false_eq_true, if_false]
    obtain ⟨v0, hv0⟩ : ∃ v0, v0 = NodeA.mk 0 ⟨#[]⟩ (RatA.mk false [] []) [] := ⟨_, rfl⟩
    rw [← hv0]
    have hm : makO 104 (n.kids.length : Int) v0 = some (List.replicate n.kids.length v0) := by
      unfold makO; rw [if_pos ⟨by omega, by simp only [Int.toNat_natCast]; omega⟩, Int.toNat_natCast]
    have hcp : copyO (List.replicate n.kids.length v0) n.kids = some n.kids := by
      unfold copyO; rw [if_pos (by simp), List.drop_of_length_le (by simp), List.append_nil]
    have i0 : idx (x :: p) (0 : Int) = some x := rfl
    refine ob _ hm (ob _ hcp (ob _ i0 (ob _ hc (ob _ (cut_tail (show p.length ≤ big by omega)) (ob _ ih ?_)))))
    have e : n.kids.set x.toNat (putS p c w) = n.kids.modify x.toNat fun k => putS p k w := by
      refine List.ext_getElem (by simp) fun t h1 h2 => ?_
      rw [List.getElem_set, List.getElem_modify]
      split
      · next e =>
        subst e
        have : n.kids[x.toNat]'(by simpa using h1) = c := by rw [List.getElem?_eq_getElem (by simpa using h1)] at hx; exact Option.some.inj hx
        rw [this]
      · rfl
    rw [e]; rfl
theorem r08_Put_eq {K : Nat} {w n m : NodeA} {p : List Int} (hs : stepS p n = some m) (hb : n.size ≤ big) (hpK : p.length < K) (hpb : p.length ≤ big) : r08_Put K n p w = some (putS p n w) :=
  rput_iter p n m K hs hpK hpb hb
/-! ### What is kept -/
structure Sim (k k' : NodeA) : Prop where
  op : k'.op = k.op
  num : k'.num = k.num
  diff : diffS k' = diffS k
  name : sortS k.op = 4 → k'.name = k.name
  size : k'.size = k.size
  lev : k'.lev = k.lev
theorem Sim.refl (k : NodeA) : Sim k k := ⟨rfl, rfl, rfl, fun _ => rfl, rfl, rfl⟩
section
variable {ks : List NodeA} {i : Nat} {f : NodeA → NodeA}
theorem mod_get (h : ∀ k, ks[i]? = some k → Sim k (f k)) {j : Nat} (hj : j < ks.length) (hj' : j < (ks.modify i f).length) : Sim ks[j] (ks.modify i f)[j] := by
  rw [List.getElem_modify]
  split
  · next e => subst e; exact h _ (List.getElem?_eq_getElem hj)
  · exact Sim.refl _
theorem mod_map {α : Type} (g : NodeA → α) (h : ∀ k, ks[i]? = some k → g (f k) = g k) : (ks.modify i f).map g = ks.map g := by
  refine List.ext_getElem (by simp) fun j h1 h2 => ?_
  simp only [List.getElem_map, List.getElem_modify]
  split
  · next e => subst e; exact h _ (List.getElem?_eq_getElem (by simpa using h2))
  · rfl
theorem flow_sim {ks ks' : List NodeA} (hl : ks'.length = ks.length) (h : ∀ j (h1 : j < ks.length) (h2 : j < ks'.length), Sim ks[j] ks'[j]) (hs : ∀ j (h1 : j < ks.length), j < ks.length - 1 → sortS ks[j].op = 4)
    (hf : (List.range (ks.length - 1)).all (flowK ks) = true) : (List.range (ks'.length - 1)).all (flowK ks') = true := by
  rw [hl]
  rw [List.all_eq_true] at hf ⊢
  intro j hj
  have h1 := hf j hj
  have hj' : j < ks.length - 1 := by simpa using hj
  have hjl : j < ks.length := by omega
  have hjl' : j < ks'.length := by omega
  unfold flowK at h1 ⊢
  rw [List.getElem?_eq_getElem hjl] at h1
  rw [List.getElem?_eq_getElem hjl', hl]
  simp only [Option.all_some] at h1 ⊢
  rw [(h j hjl hjl').op, (h j hjl hjl').name (hs j hjl hj')]
  rw [Bool.and_eq_true] at h1 ⊢
  refine ⟨h1.1, ?_⟩
  rw [List.all_eq_true] at *
  intro z hz
  obtain ⟨t, ht, rfl⟩ := List.mem_take_iff_getElem.1 hz
  have htl : t < ks.length := by omega
  rw [(h t htl (by omega)).name (hs t htl (by omega))]
  exact h1.2 _ (List.mem_take_iff_getElem.2 ⟨t, by omega, rfl⟩)
end
theorem put_sim : ∀ {p : List Int} {n m w : NodeA}, stepS p n = some m → sortS m.op ≠ 4 → Sim m w → Sim n (putS p n w)
  | [], n, m, w, h, _, hs => by obtain rfl := Option.some.inj h; exact hs
  | i :: p, n, m, w, h, h4, hs => by
    obtain ⟨c, hc, h⟩ := obind h
    obtain ⟨hx0, hx⟩ := idx_some hc
    have ih := put_sim h h4 hs
    have hk : ∀ k, n.kids[i.toNat]? = some k → Sim k (putS p k w) := fun k hk => by rw [hx] at hk; obtain rfl := Option.some.inj hk; exact ih
    have e1 : (n.kids.modify i.toNat fun k => putS p k w).map diffS = n.kids.map diffS := mod_map diffS fun k q => (hk k q).diff
    have e2 : (n.kids.modify i.toNat fun k => putS p k w).map NodeA.size = n.kids.map NodeA.size := mod_map NodeA.size fun k q => (hk k q).size
    have e3 : (n.kids.modify i.toNat fun k => putS p k w).map NodeA.lev = n.kids.map NodeA.lev := mod_map NodeA.lev fun k q => (hk k q).lev
    obtain ⟨o, m', r, ks⟩ := n
    refine ⟨rfl, rfl, ?_, fun _ => rfl, ?_, ?_⟩
    · show diffS (.mk o m' r (ks.modify i.toNat fun k => putS p k w)) = diffS (.mk o m' r ks)
      rw [diffS_eq, diffS_eq (.mk o m' r ks)]
      simp only [NodeA.op_mk, NodeA.kids_mk] at e1 ⊢
      have : (ks.modify i.toNat fun k => putS p k w).all diffS = ks.all diffS := by
        have := congrArg (fun l : List Bool => l.all id) e1
        simpa [List.all_map] using this
      rw [this]
    · show (NodeA.mk o m' r (ks.modify i.toNat fun k => putS p k w)).size = _
      rw [NodeA.size_mk, NodeA.size_mk]
      simp only [NodeA.kids_mk] at e2
      rw [e2]
    · show (NodeA.mk o m' r (ks.modify i.toNat fun k => putS p k w)).lev = _
      rw [NodeA.lev_mk, NodeA.lev_mk]
      simp only [NodeA.kids_mk] at e3
      rw [e3]
theorem put_ok : ∀ {p : List Int} {n m w : NodeA}, stepS p n = some m → sortS m.op ≠ 4 → Sim m w → (∀ d fd fl, okS m d fd fl = true → okS w d fd fl = true) → ∀ d fd fl, okS n d fd fl = true → okS (putS p n w) d fd fl = true
  | [], n, m, w, h, _, hs, ho => by obtain rfl := Option.some.inj h; exact ho
  | i :: p, n, m, w, h, h4, hs, ho => by
    obtain ⟨c, hc, h⟩ := obind h
    obtain ⟨hx0, hx⟩ := idx_some hc
    have ih := put_sim h h4 hs
    have iho := put_ok h h4 hs ho
    have hk : ∀ k, n.kids[i.toNat]? = some k → Sim k (putS p k w) := fun k hk => by rw [hx] at hk; obtain rfl := Option.some.inj hk; exact ih
    intro d fd fl hn
    have hfs := fine_sorts ⟨d, fd, fl, hn⟩
    rw [okS_eq] at hn ⊢
    simp only [Bool.and_eq_true] at hn ⊢
    obtain ⟨h1, h2, h3, h5, h6, h7⟩ := hn
    have e1 : (n.kids.modify i.toNat fun k => putS p k w).map (fun x => sortS x.op) = n.kids.map fun x => sortS x.op := mod_map _ fun k q => by rw [(hk k q).op]
    have eg : ∀ j : Nat, ((n.kids.modify i.toNat fun k => putS p k w)[j]?).all diffS = (n.kids[j]?).all diffS := fun j => by
      have := congrArg (fun l : List Bool => l[j]?) (mod_map (ks := n.kids) (i := i.toNat) (f := fun k => putS p k w) diffS fun k q => (hk k q).diff)
      simp only [List.getElem?_map] at this
      cases e1 : (n.kids.modify i.toNat fun k => putS p k w)[j]? <;> cases e2 : n.kids[j]? <;> rw [e1, e2] at this <;> simp_all
    have eon : ∀ (j : Nat) (q : Int → RatA → Bool), ((n.kids.modify i.toNat fun k => putS p k w)[j]?).all (fun x => q x.op x.num) = (n.kids[j]?).all fun x => q x.op x.num := fun j q => by
      have := congrArg (fun l : List Bool => l[j]?) (mod_map (ks := n.kids) (i := i.toNat) (f := fun k => putS p k w) (fun x => q x.op x.num) fun k z => by rw [(hk k z).op, (hk k z).num])
      simp only [List.getElem?_map] at this
      cases e1 : (n.kids.modify i.toNat fun k => putS p k w)[j]? <;> cases e2 : n.kids[j]? <;> rw [e1, e2] at this <;> simp_all
    have ln : (n.kids.modify i.toNat fun k => putS p k w).length = n.kids.length := by simp
    refine ⟨h1, h2, ?_, ?_, ?_, ?_⟩
    · unfold stC at h3 ⊢
      show (if n.op == 10 || n.op == 37 then decide ((n.kids.modify i.toNat fun k => putS p k w).length ≤ 1) else if n.op == 54 then decide (2 ≤ (n.kids.modify i.toNat fun k => putS p k w).length) && (List.range ((n.kids.modify i.toNat fun k => putS p k w).length - 1)).all (flowK (n.kids.modify i.toNat fun k => putS p k w)) else if n.op == 3 then !(d || (fd || fl)) else if n.op == 12 then !(d || fl) else if n.op == 39 then !(fl || ((((n.kids.modify i.toNat fun k => putS p k w).length : Int) != 1) || !(((n.kids.modify i.toNat fun k => putS p k w)[0]?).all diffS))) else true) = true
      rw [eg 0]
      by_cases h54 : n.op = 54
      · have e54 : (n.op == 54) = true := by rw [h54]; rfl
        have e10 : (n.op == 10 || n.op == 37) = false := by rw [h54]; rfl
        rw [e10, e54] at h3 ⊢
        simp only [Bool.false_eq_true, if_false, if_true, Bool.and_eq_true] at h3 ⊢
        refine ⟨by rw [ln]; exact h3.1, ?_⟩
        refine flow_sim ln (fun j q1 q2 => mod_get hk q1 q2) (fun j q1 q2 => ?_) h3.2
        have hsc : sortsC n = List.replicate (n.kids.length - 1) 4 ++ [2] := by unfold sortsC; rw [e10, e54]; rfl
        rw [hsc] at hfs
        have := congrArg (fun l : List Int => l[j]?) hfs
        simp only [List.getElem?_map, List.getElem?_eq_getElem q1, Option.map_some] at this
        rw [List.getElem?_append_left (by simpa using q2), List.getElem?_replicate, if_pos q2] at this
        exact Option.some.inj this
      · have e54 : (n.op == 54) = false := beq_eq_false_iff_ne.2 h54
        rw [e54] at h3 ⊢
        simp only [Bool.false_eq_true, if_false] at h3 ⊢
        rw [ln]; exact h3
    · show ((n.kids.modify i.toNat fun k => putS p k w).map (fun x => sortS x.op) == sortsC (.mk n.op n.name n.num (n.kids.modify i.toNat fun k => putS p k w))) = true
      rw [e1]
      have : sortsC (.mk n.op n.name n.num (n.kids.modify i.toNat fun k => putS p k w)) = sortsC n := by unfold sortsC; simp only [NodeA.op_mk, NodeA.kids_mk, ln]
      rw [this]; exact h5
    · show ((n.kids.modify i.toNat fun k => putS p k w).all fun k => okS k (d || n.op == 12) (fd || n.op == 39) (fl || n.op == 54)) = true
      rw [List.all_eq_true] at h6 ⊢
      intro z hz
      obtain ⟨j, hj, rfl⟩ := List.getElem_of_mem hz
      rw [List.getElem_modify]
      have hj' : j < n.kids.length := by simpa using hj
      split
      · next e =>
        subst e
        have := hk _ (List.getElem?_eq_getElem hj')
        have hcj : n.kids[i.toNat] = c := by rw [List.getElem?_eq_getElem hj'] at hx; exact Option.some.inj hx
        rw [hcj]
        exact iho _ _ _ (h6 c (List.mem_of_getElem? hx))
      · exact h6 _ (List.getElem_mem hj')
    · show lastC (.mk n.op n.name n.num (n.kids.modify i.toNat fun k => putS p k w)) = true
      unfold lastC at h7 ⊢
      simp only [NodeA.op_mk, NodeA.kids_mk]
      rw [eon 1 fun o r => o == 1 && decide (0 < (r.num.length : Int)), eon 1 fun o r => o == 1 && (((r.num.length : Int) == 0) || ((r.num.length : Int) == 1) && (r.num[0]?).all fun w => decide (w ≤ 20))]
      exact h7
theorem put_free : ∀ {p : List Int} {n m w : NodeA}, stepS p n = some m → sortS m.op ≠ 4 → Sim m w → freeS w = freeS m → mustS w = mustS m → freeS (putS p n w) = freeS n ∧ mustS (putS p n w) = mustS n
  | [], n, m, w, h, _, hs, h1, h2 => by obtain rfl := Option.some.inj h; exact ⟨h1, h2⟩
  | i :: p, n, m, w, h, h4, hs, h1, h2 => by
    obtain ⟨c, hc, h⟩ := obind h
    obtain ⟨hx0, hx⟩ := idx_some hc
    have ih := put_sim h h4 hs
    obtain ⟨i1, i2⟩ := put_free h h4 hs h1 h2
    have hk : ∀ k, n.kids[i.toNat]? = some k → k = c := fun k hk => by rw [hx] at hk; exact (Option.some.inj hk).symm
    have e1 : (n.kids.modify i.toNat fun k => putS p k w).map freeS = n.kids.map freeS := mod_map _ fun k q => by rw [hk k q]; exact i1
    have e2 : (n.kids.modify i.toNat fun k => putS p k w).map mustS = n.kids.map mustS := mod_map _ fun k q => by rw [hk k q]; exact i2
    have e3 : (n.kids.modify i.toNat fun k => putS p k w).foldl flowM noneS = n.kids.foldl flowM noneS := by
      have e : ∀ s k, flowM s k = (fun s (q : Int × ByteArray) => if q.1 == 55 then unionS s (unionS (oneS q.2) (oneS (q.2 ++ tick))) else s) s (if k.op = 55 then (k.op, k.name) else (0, ⟨#[]⟩)) := fun s k => by
        unfold flowM
        by_cases h : k.op = 55
        · rw [if_pos h]
        · rw [if_neg h, beq_eq_false_iff_ne.2 h]; rfl
      have em := mod_map (ks := n.kids) (i := i.toNat) (f := fun k => putS p k w) (fun k => if k.op = 55 then (k.op, k.name) else ((0 : Int), (⟨#[]⟩ : ByteArray))) fun k q => by
        have := hk k q; subst this
        rw [ih.op]
        by_cases h : k.op = 55
        · rw [if_pos h, if_pos h, ih.name (by rw [h]; rfl)]
        · rw [if_neg h, if_neg h]
      have ef : ∀ (l : List NodeA) s, l.foldl flowM s = (l.map fun k => if k.op = 55 then (k.op, k.name) else ((0 : Int), (⟨#[]⟩ : ByteArray))).foldl (fun s q => if q.1 == 55 then unionS s (unionS (oneS q.2) (oneS (q.2 ++ tick))) else s) s := by
        intro l
        induction l with
        | nil => intro s; rfl
        | cons k l ih => intro s; rw [List.foldl_cons, List.map_cons, List.foldl_cons, ih, e]
      rw [ef, ef, em]
    refine ⟨?_, ?_⟩
    · rw [freeS_eq, freeS_eq n]
      show freeB n.op n.name ((n.kids.modify i.toNat fun k => putS p k w).map mustS) ((n.kids.modify i.toNat fun k => putS p k w).map freeS) = _
      rw [e1, e2]
    · rw [mustS_eq, mustS_eq n]
      show mustB n.op n.name (n.kids.modify i.toNat fun k => putS p k w) ((n.kids.modify i.toNat fun k => putS p k w).map mustS) = _
      rw [e2]; unfold mustB; rw [e3]
theorem put_names : ∀ {p : List Int} {n w : NodeA} {v : ByteArray}, v ∈ namesN (putS p n w) → v ∈ namesN n ∨ v ∈ namesN w
  | [], n, w, v, h => .inr h
  | i :: p, n, w, v, h => by
    have h : v ∈ namesN (.mk n.op n.name n.num (n.kids.modify i.toNat fun k => putS p k w)) := h
    rw [names_mk, List.mem_cons] at h
    rcases h with rfl | h
    · exact .inl (names_self n)
    · obtain ⟨l, hl, hv⟩ := List.mem_flatten.1 h
      obtain ⟨z, hz, rfl⟩ := List.mem_map.1 hl
      obtain ⟨j, hj, rfl⟩ := List.getElem_of_mem hz
      rw [List.getElem_modify] at hv
      have hj' : j < n.kids.length := by simpa using hj
      split at hv
      · rcases put_names hv with h | h
        · exact .inl (names_kid (List.getElem_mem hj') h)
        · exact .inr h
      · exact .inl (names_kid (List.getElem_mem hj') hv)
end Go.Proofs.YtngmfimpaembnaaGreatDoor
namespace Go.Proofs.YtngmfimpaembnaaGreatDoor
open Go Go.Iso Go.Proofs
set_option linter.unusedSimpArgs false
set_option linter.unusedVariables false
set_option maxRecDepth 100000
/-! ### The node that binds -/
def bindS (n : NodeA) : Option (ByteArray × Nat) :=
  if n.op = 33 ∨ n.op = 34 then some (n.name, 0)
  else if n.op = 35 ∨ n.op = 36 then (n.kids[0]?).bind fun a => if a.op = 50 ∨ a.op = 52 then some (a.name, 1) else none
  else none
def rebS (n : NodeA) (y : ByteArray) (g : NodeA) : NodeA :=
  if n.op = 33 ∨ n.op = 34 then .mk n.op y n.num [g]
  else match n.kids with
    | a :: _ => .mk n.op n.name n.num [.mk a.op y a.num a.kids, g]
    | [] => n
inductive Binds : NodeA → ByteArray → Nat → NodeA → Prop
  | q (o : Int) (m : ByteArray) (r : RatA) (f : NodeA) (h : o = 33 ∨ o = 34) (hm : nameB m = true) (hf : sortS f.op = 2) : Binds (.mk o m r [f]) m 0 f
  | m (o : Int) (m : ByteArray) (r : RatA) (a f : NodeA) (h : o = 35 ∨ o = 36) (ha : a.op = 50 ∨ a.op = 52) (hm : nameB a.name = true) (hf : sortS f.op = 2) : Binds (.mk o m r [a, f]) a.name 1 f
theorem binds_of {n : NodeA} {x : ByteArray} {k : Nat} (hf : Fine n) (h : bindS n = some (x, k)) : ∃ f, Binds n x k f := by
  unfold bindS at h
  split at h
  · next h1 =>
    obtain ⟨f, hks, hs⟩ := sorts1 (a := 2) hf (by unfold sortsC; rcases h1 with e | e <;> rw [e] <;> rfl)
    have hn := fine_name hf (named_b (by omega))
    cases h
    obtain ⟨o, m, r, ks⟩ := n
    simp only [NodeA.kids_mk] at hks
    subst hks
    exact ⟨f, .q o m r f h1 hn hs⟩
  · split at h
    · next h1 =>
      obtain ⟨a, f, hks, ha, hs⟩ := sorts2 (a := 3) (b := 2) hf (by unfold sortsC; rcases h1 with e | e <;> rw [e] <;> rfl)
      have hfa : Fine a := fine_kid hf (by rw [hks]; simp)
      obtain ⟨o, m, r, ks⟩ := n
      simp only [NodeA.kids_mk] at hks
      subst hks
      simp only [NodeA.kids_mk, List.getElem?_cons_zero, Option.bind_some] at h
      split at h
      · next h2 =>
        cases h
        exact ⟨f, .m o m r a f h1 h2 (fine_name hfa (named_b (by omega))) hs⟩
      · cases h
    · cases h
theorem Binds.kid {n : NodeA} {x : ByteArray} {k : Nat} {f : NodeA} (h : Binds n x k f) : n.kids[k]? = some f ∧ f ∈ n.kids := by
  cases h with
  | q => exact ⟨rfl, by simp [NodeA.kids_mk]⟩
  | m => exact ⟨rfl, by simp [NodeA.kids_mk]⟩
theorem Binds.name {n : NodeA} {x : ByteArray} {k : Nat} {f : NodeA} (h : Binds n x k f) : nameB x = true := by
  cases h with
  | q _ _ _ _ _ h => exact h
  | m _ _ _ _ _ _ _ h => exact h
theorem Binds.names {n : NodeA} {x : ByteArray} {k : Nat} {f : NodeA} (h : Binds n x k f) : x ∈ namesN n := by
  cases h with
  | q => exact names_self _
  | m o m r a f => exact names_kid (show a ∈ (NodeA.mk o m r [a, f]).kids by simp [NodeA.kids_mk]) (names_self a)
theorem Binds.sort {n : NodeA} {x : ByteArray} {k : Nat} {f : NodeA} (h : Binds n x k f) : sortS n.op = 2 := by
  cases h with
  | q o _ _ _ h => rcases h with rfl | rfl <;> rfl
  | m o _ _ _ _ h => rcases h with rfl | rfl <;> rfl
theorem rename_binder_eq {K : Nat} {n : NodeA} (hf : Fine n) : rename_binder K n = some (match bindS n with | some (x, k) => (x, (k : Int), true) | none => (⟨#[]⟩, 0, false)) := by
  unfold rename_binder bindS
  by_cases h1 : n.op = 33 ∨ n.op = 34
  · have e : (if (n.op == (33 : Int)) then some (n.op == (33 : Int)) else some (n.op == (34 : Int)) : Option Bool) = some true := by rcases h1 with h | h <;> rw [h] <;> rfl
    rw [if_pos h1]
    exact ob _ e rfl
  have e : (if (n.op == (33 : Int)) then some (n.op == (33 : Int)) else some (n.op == (34 : Int)) : Option Bool) = some false := by
    rw [beq_eq_false_iff_ne.2 (fun h => h1 (.inl h)), beq_eq_false_iff_ne.2 (fun h => h1 (.inr h))]; rfl
  rw [if_neg h1]
  refine ob _ e ?_
  simp only [Bool.false_eq_true, if_false]
  by_cases h2 : n.op = 35 ∨ n.op = 36
  · have e : (if (n.op == (35 : Int)) then some (n.op == (35 : Int)) else some (n.op == (36 : Int)) : Option Bool) = some true := by rcases h2 with h | h <;> rw [h] <;> rfl
    rw [if_pos h2]
    refine ob _ e ?_
    obtain ⟨a, f, hks, _⟩ := sorts2 (a := 3) (b := 2) hf (by unfold sortsC; rcases h2 with e | e <;> rw [e] <;> rfl)
    rw [hks]
    simp only [if_true, idx0, Option.bind_some, List.getElem?_cons_zero, orO]
    by_cases h3 : a.op = 50 ∨ a.op = 52
    · have e3 : (a.op == (50 : Int) || a.op == (52 : Int)) = true := by rcases h3 with h | h <;> rw [h] <;> rfl
      rw [if_pos h3, e3]; rfl
    · have e3 : (a.op == (50 : Int) || a.op == (52 : Int)) = false := by rw [beq_eq_false_iff_ne.2 (fun h => h3 (.inl h)), beq_eq_false_iff_ne.2 (fun h => h3 (.inr h))]; rfl
      rw [if_neg h3, e3]; rfl
  · have e : (if (n.op == (35 : Int)) then some (n.op == (35 : Int)) else some (n.op == (36 : Int)) : Option Bool) = some false := by
      rw [beq_eq_false_iff_ne.2 (fun h => h2 (.inl h)), beq_eq_false_iff_ne.2 (fun h => h2 (.inr h))]; rfl
    rw [if_neg h2]
    exact ob _ e rfl
theorem r18_binder_eq {K : Nat} {n : NodeA} (hf : Fine n) : r18_binder K n = some (match bindS n with | some (x, k) => (x, n.kids.getD k zN, true) | none => (⟨#[]⟩, zN, false)) := by
  unfold r18_binder bindS
  by_cases h1 : n.op = 33 ∨ n.op = 34
  · have e : (if (n.op == (33 : Int)) then some (n.op == (33 : Int)) else some (n.op == (34 : Int)) : Option Bool) = some true := by rcases h1 with h | h <;> rw [h] <;> rfl
    rw [if_pos h1]
    obtain ⟨f, hks, hs⟩ := sorts1 (a := 2) hf (by unfold sortsC; rcases h1 with e | e <;> rw [e] <;> rfl)
    refine ob (.out (n.name, f, true)) (ob _ e ?_) ?_
    · rw [hks]; rfl
    · rw [hks]; rfl
  have e : (if (n.op == (33 : Int)) then some (n.op == (33 : Int)) else some (n.op == (34 : Int)) : Option Bool) = some false := by
    rw [beq_eq_false_iff_ne.2 (fun h => h1 (.inl h)), beq_eq_false_iff_ne.2 (fun h => h1 (.inr h))]; rfl
  rw [if_neg h1]
  by_cases h2 : n.op = 35 ∨ n.op = 36
  · have e2 : (if (n.op == (35 : Int)) then some (n.op == (35 : Int)) else some (n.op == (36 : Int)) : Option Bool) = some true := by rcases h2 with h | h <;> rw [h] <;> rfl
    rw [if_pos h2]
    obtain ⟨a, f, hks, _⟩ := sorts2 (a := 3) (b := 2) hf (by unfold sortsC; rcases h2 with e | e <;> rw [e] <;> rfl)
    rw [hks]
    by_cases h3 : a.op = 50 ∨ a.op = 52
    · have e3 : (if (a.op == (50 : Int)) then some true else some (a.op == (52 : Int)) : Option Bool) = some true := by rcases h3 with h | h <;> rw [h] <;> rfl
      refine ob (.out (a.name, f, true)) (ob _ e ?_) ?_
      · refine ob _ e2 ?_
        simp only [if_true, idx0, idx1, Option.bind_some]
        exact ob _ e3 rfl
      · simp only [List.getElem?_cons_zero, Option.bind_some, if_pos h3]; rfl
    · have e3 : (if (a.op == (50 : Int)) then some true else some (a.op == (52 : Int)) : Option Bool) = some false := by rw [beq_eq_false_iff_ne.2 (fun h => h3 (.inl h)), beq_eq_false_iff_ne.2 (fun h => h3 (.inr h))]; rfl
      refine ob (.go ()) (ob _ e ?_) ?_
      · refine ob _ e2 ?_
        simp only [if_true, idx0, idx1, Option.bind_some]
        exact ob _ e3 rfl
      · simp only [List.getElem?_cons_zero, Option.bind_some, if_neg h3]; rfl
  · have e2 : (if (n.op == (35 : Int)) then some (n.op == (35 : Int)) else some (n.op == (36 : Int)) : Option Bool) = some false := by
      rw [beq_eq_false_iff_ne.2 (fun h => h2 (.inl h)), beq_eq_false_iff_ne.2 (fun h => h2 (.inr h))]; rfl
    rw [if_neg h2]
    exact ob (.go ()) (ob _ e (ob _ e2 rfl)) rfl
/-! ### Renaming what a node binds -/
section
variable {x y : ByteArray} {V : List ByteArray} {A f : NodeA} {k : Nat}
theorem reb_sim (hb : Binds A x k f) : Sim A (rebS A y (exS x y f)) := by
  cases hb with
  | q o m r f h =>
    have e : rebS (.mk o x r [f]) y (exS x y f) = .mk o y r [exS x y f] := by unfold rebS; simp only [NodeA.op_mk]; rw [if_pos h]; rfl
    rw [e]
    refine ⟨rfl, rfl, ?_, fun hs => ?_, ?_, ?_⟩
    · rw [diffS_eq, diffS_eq (.mk o x r [f])]
      simp only [NodeA.op_mk]
      rcases h with rfl | rfl <;> rfl
    · simp only [NodeA.op_mk] at hs; rcases h with rfl | rfl <;> cases hs
    · rw [NodeA.size_mk, NodeA.size_mk]; simp only [List.map_cons, List.map_nil, exS_size]
    · rw [NodeA.lev_mk, NodeA.lev_mk]; simp only [List.map_cons, List.map_nil, exS_lev]
  | m o m r a f h ha =>
    have e : rebS (.mk o m r [a, f]) y (exS a.name y f) = .mk o m r [.mk a.op y a.num a.kids, exS a.name y f] := by unfold rebS; rw [if_neg (by simp only [NodeA.op_mk]; omega)]; rfl
    rw [e]
    have hsz : (NodeA.mk a.op y a.num a.kids).size = a.size := by obtain ⟨o1, m1, r1, k1⟩ := a; show (NodeA.mk o1 y r1 k1).size = _; rw [NodeA.size_mk, NodeA.size_mk]
    have hlv : (NodeA.mk a.op y a.num a.kids).lev = a.lev := by obtain ⟨o1, m1, r1, k1⟩ := a; show (NodeA.mk o1 y r1 k1).lev = _; rw [NodeA.lev_mk, NodeA.lev_mk]
    refine ⟨rfl, rfl, ?_, fun hs => rfl, ?_, ?_⟩
    · rw [diffS_eq, diffS_eq (.mk o m r [a, f])]
      simp only [NodeA.op_mk]
      rcases h with rfl | rfl <;> rfl
    · rw [NodeA.size_mk, NodeA.size_mk]; simp only [List.map_cons, List.map_nil, exS_size, hsz]
    · rw [NodeA.lev_mk, NodeA.lev_mk]; simp only [List.map_cons, List.map_nil, exS_lev, hlv]
theorem okS_name {a : NodeA} {d fd fl : Bool} (ha : a.op = 50 ∨ a.op = 52) (hy : nameB y = true) (h : okS a d fd fl = true) : okS (.mk a.op y a.num a.kids) d fd fl = true := by
  rw [okS_eq] at h ⊢
  simp only [Bool.and_eq_true] at h ⊢
  obtain ⟨h1, h2, h3, h4, h5, h6⟩ := h
  refine ⟨h1, ?_, h3, h4, h5, h6⟩
  unfold nameC at h2 ⊢
  have hn : namedS a.op = true := named_b (by omega)
  simp only [NodeA.op_mk, NodeA.name_mk, hn, Bool.true_or, if_true]
  exact hy
theorem reb_ok (hb : Binds A x k f) (hy : nameB y = true) (d fd fl : Bool) (h : okS A d fd fl = true) : okS (rebS A y (exS x y f)) d fd fl = true := by
  have hx := hb.name
  cases hb with
  | q o m r f ho =>
    have e : rebS (.mk o x r [f]) y (exS x y f) = .mk o y r [exS x y f] := by unfold rebS; simp only [NodeA.op_mk]; rw [if_pos ho]; rfl
    rw [e]
    rw [okS_eq] at h ⊢
    simp only [Bool.and_eq_true, NodeA.op_mk, NodeA.kids_mk] at h ⊢
    obtain ⟨h1, h2, h3, h4, h5, h6⟩ := h
    refine ⟨h1, ?_, ?_, ?_, ?_, ?_⟩
    · unfold nameC at h2 ⊢
      have hn : namedS o = true := named_b (by omega)
      simp only [NodeA.op_mk, NodeA.name_mk, hn, Bool.true_or, if_true]
      exact hy
    · unfold stC at h3 ⊢
      simp only [NodeA.op_mk, NodeA.kids_mk] at h3 ⊢
      rcases ho with rfl | rfl <;> rfl
    · simp only [List.map_cons, List.map_nil, exS_op] at h4 ⊢
      have : sortsC (.mk o y r [exS x y f]) = sortsC (.mk o x r [f]) := by unfold sortsC; simp only [NodeA.op_mk, NodeA.kids_mk, List.length_cons, List.length_nil]
      rw [this]; exact h4
    · rw [List.all_eq_true] at h5 ⊢
      intro z hz
      rw [List.mem_singleton] at hz
      subst hz
      exact exS_ok hx hy f _ _ _ (h5 f (by simp))
    · unfold lastC at h6 ⊢
      simp only [NodeA.op_mk] at h6 ⊢
      rcases ho with rfl | rfl <;> rfl
  | m o m r a f ho ha =>
    have e : rebS (.mk o m r [a, f]) y (exS a.name y f) = .mk o m r [.mk a.op y a.num a.kids, exS a.name y f] := by unfold rebS; rw [if_neg (by simp only [NodeA.op_mk]; omega)]; rfl
    rw [e]
    rw [okS_eq] at h ⊢
    simp only [Bool.and_eq_true, NodeA.op_mk, NodeA.kids_mk] at h ⊢
    obtain ⟨h1, h2, h3, h4, h5, h6⟩ := h
    refine ⟨h1, h2, ?_, ?_, ?_, ?_⟩
    · unfold stC at h3 ⊢
      simp only [NodeA.op_mk, NodeA.kids_mk] at h3 ⊢
      rcases ho with rfl | rfl <;> rfl
    · simp only [List.map_cons, List.map_nil, exS_op, NodeA.op_mk] at h4 ⊢
      have : sortsC (.mk o m r [.mk a.op y a.num a.kids, exS a.name y f]) = sortsC (.mk o m r [a, f]) := by unfold sortsC; simp only [NodeA.op_mk, NodeA.kids_mk, List.length_cons, List.length_nil]
      rw [this]; exact h4
    · rw [List.all_eq_true] at h5 ⊢
      intro z hz
      rcases List.mem_cons.1 hz with rfl | hz
      · exact okS_name ha hy (h5 a (by simp))
      · rw [List.mem_singleton] at hz
        subst hz
        exact exS_ok hx hy f _ _ _ (h5 f (by simp))
    · unfold lastC at h6 ⊢
      simp only [NodeA.op_mk] at h6 ⊢
      rcases ho with rfl | rfl <;> rfl
theorem ren_set (h : Two x y V) {F : Api_NamesA} (hF : Good V F) (gx : Good V (oneS x)) (gy : Good V (oneS y)) (h1 : inS F y = false) (h2 : inS F (y ++ tick) = false) (h3 : inS F (x ++ tick) = false) : minusS (imS x y F) (oneS y) = minusS F (oneS x) := by
  refine good_ext (good_minus (good_im h hF) gy) (good_minus hF gx) (by rw [minus_all, minus_all]; rfl) fun v => ?_
  rw [minus_in (good_im h hF) gy, minus_in hF gx, im_in h]
  have io : ∀ z v : ByteArray, inS (oneS z) v = pB (v = z) := fun z v => by
    unfold inS
    rw [Bool.bne_false]
    exact pB_iff (by simp)
  rw [io, io]
  rcases sg_cases (x := x) (y := y) v with e | e | e | e | ⟨e1, e2, e3, e4⟩
  · rw [e, sg_x, h1, pB_true.2 rfl]; simp
  · rw [e, pB_true.2 rfl, h1]; simp
  · rw [e, sg_xt h.hx h.hy, h2, h3]; simp
  · rw [e, sg_yt h.hx h.hy, h2, h3]; simp
  · rw [sg_o e1 e2 e3 e4, pB_false.2 e1, pB_false.2 e2]
theorem reb_free (h : Two x y V) (hb : Binds A x k f) (hA : Fine A) (hc : Cov V A) (h1 : inS (freeS f) y = false) (h2 : inS (freeS f) (y ++ tick) = false) (h3 : inS (freeS f) (x ++ tick) = false) :
    freeS (rebS A y (exS x y f)) = freeS A ∧ mustS (rebS A y (exS x y f)) = mustS A := by
  have hff := fine_kid hA hb.kid.2
  have hcf := cov_kid hc hb.kid.2
  have gF := good_free h.uni f hff hcf
  have gx : Good V (oneS x) := good_one h.uni (name_var h.hx) h.mx
  have gy : Good V (oneS y) := good_one h.uni (name_var h.hy) h.my
  have hi := im_free h f hff hcf
  have hr := ren_set h gF gx gy h1 h2 h3
  cases hb with
  | q o m r f ho =>
    have e : rebS (.mk o x r [f]) y (exS x y f) = .mk o y r [exS x y f] := by unfold rebS; simp only [NodeA.op_mk]; rw [if_pos ho]; rfl
    rw [e]
    refine ⟨?_, ?_⟩
    · rw [freeS_eq, freeS_eq (.mk o x r [f])]
      simp only [NodeA.op_mk, NodeA.name_mk, NodeA.kids_mk, List.map_cons, List.map_nil]
      unfold freeB
      rw [if_neg (by omega), if_neg (by omega), if_neg (by omega), if_neg (by omega), if_pos ho, if_neg (by omega), if_neg (by omega), if_neg (by omega), if_neg (by omega), if_pos ho]
      show minusS (freeS (exS x y f)) (oneS y) = minusS (freeS f) (oneS x)
      rw [hi]; exact hr
    · rw [mustS_eq, mustS_eq (.mk o x r [f])]
      simp only [NodeA.op_mk, NodeA.name_mk, NodeA.kids_mk, List.map_cons, List.map_nil]
      unfold mustB
      rw [if_neg (by omega), if_neg (by omega), if_neg (by omega), if_neg (by omega), if_neg (by omega), if_neg (by omega), if_neg (by omega), if_neg (by omega), if_neg (by omega), if_neg (by omega), if_neg (by omega), if_neg (by omega)]
  | m o m r a f ho ha =>
    have e : rebS (.mk o m r [a, f]) y (exS a.name y f) = .mk o m r [.mk a.op y a.num a.kids, exS a.name y f] := by unfold rebS; rw [if_neg (by simp only [NodeA.op_mk]; omega)]; rfl
    rw [e]
    have fa : freeS (.mk a.op y a.num a.kids) = freeS a := by
      rw [freeS_eq, freeS_eq a]
      simp only [NodeA.op_mk, NodeA.name_mk, NodeA.kids_mk]
      unfold freeB
      rw [if_neg (by omega), if_neg (by omega), if_neg (by omega), if_neg (by omega), if_neg (by omega), if_neg (by omega), if_neg (by omega), if_neg (by omega), if_neg (by omega), if_neg (by omega), if_neg (by omega), if_neg (by omega), if_neg (by omega), if_neg (by omega)]
    have ma : mustS a = oneS a.name := by rw [mustS_eq]; unfold mustB; rw [if_pos ha]
    have my : mustS (.mk a.op y a.num a.kids) = oneS y := by rw [mustS_eq]; unfold mustB; simp only [NodeA.op_mk]; rw [if_pos ha]; rfl
    refine ⟨?_, ?_⟩
    · rw [freeS_eq, freeS_eq (.mk o m r [a, f])]
      simp only [NodeA.op_mk, NodeA.name_mk, NodeA.kids_mk, List.map_cons, List.map_nil]
      unfold freeB
      rw [if_neg (by omega), if_neg (by omega), if_neg (by omega), if_neg (by omega), if_neg (by omega), if_pos (by omega), if_neg (by omega), if_neg (by omega), if_neg (by omega), if_neg (by omega), if_neg (by omega), if_pos (by omega)]
      show unionS (freeS (.mk a.op y a.num a.kids)) (minusS (freeS (exS a.name y f)) (mustS (.mk a.op y a.num a.kids))) = unionS (freeS a) (minusS (freeS f) (mustS a))
      rw [fa, ma, my, hi, hr]
    · rw [mustS_eq, mustS_eq (.mk o m r [a, f])]
      simp only [NodeA.op_mk, NodeA.name_mk, NodeA.kids_mk, List.map_cons, List.map_nil]
      unfold mustB
      rw [if_neg (by omega), if_neg (by omega), if_neg (by omega), if_neg (by omega), if_neg (by omega), if_neg (by omega), if_neg (by omega), if_neg (by omega), if_neg (by omega), if_neg (by omega), if_neg (by omega), if_neg (by omega)]
theorem reb_names (hb : Binds A x k f) {v : ByteArray} (h : v ∈ namesN (rebS A y (exS x y f))) : v ∈ namesN A ∨ v = y := by
  have hf := hb.kid.2
  have hx := hb.names
  have hex : ∀ v, v ∈ namesN (exS x y f) → v ∈ namesN A ∨ v = y := fun v hv => by
    rcases names_ex f v hv with h | rfl | h
    · exact .inl (names_kid hf h)
    · exact .inl hx
    · exact .inr h
  cases hb with
  | q o m r f ho =>
    have e : rebS (.mk o x r [f]) y (exS x y f) = .mk o y r [exS x y f] := by unfold rebS; simp only [NodeA.op_mk]; rw [if_pos ho]; rfl
    rw [e, names_mk] at h
    simp only [List.map_cons, List.map_nil, List.flatten_cons, List.flatten_nil, List.append_nil, List.mem_cons] at h
    rcases h with h | h
    · exact .inr h
    · exact hex v h
  | m o m r a f ho ha =>
    have e : rebS (.mk o m r [a, f]) y (exS a.name y f) = .mk o m r [.mk a.op y a.num a.kids, exS a.name y f] := by unfold rebS; rw [if_neg (by simp only [NodeA.op_mk]; omega)]; rfl
    rw [e, names_mk] at h
    simp only [List.map_cons, List.map_nil, List.flatten_cons, List.flatten_nil, List.append_nil, List.mem_cons, List.mem_append] at h
    rcases h with h | h | h
    · subst h; exact .inl (names_self (.mk o v r [a, f]))
    · rw [names_mk, List.mem_cons] at h
      rcases h with h | h
      · exact .inr h
      · refine .inl (names_kid (show a ∈ (NodeA.mk o m r [a, f]).kids by simp [NodeA.kids_mk]) ?_)
        obtain ⟨o1, m1, r1, k1⟩ := a
        rw [names_mk]; exact List.mem_cons_of_mem _ h
    · exact hex v h
end
/-! ### The law -/
noncomputable def touS (f : NodeA) (v : ByteArray) : Bool := inS (freeS f) v || inS (bndR f) v
noncomputable def boundA (n : NodeA) (p : List Int) (y : ByteArray) : NodeA × Int :=
  if rootS n != 0 then (zN, rootS n) else match stepS p n with
    | none => (zN, 1)
    | some m => match bindS m with
      | none => (zN, 3)
      | some (x, k) => if !nameB y then (zN, 3) else
        if (x.toList == y.toList) || (!renB (m.kids.getD k zN) || (touS (m.kids.getD k zN) y || (touS (m.kids.getD k zN) (y ++ tick) || touS (m.kids.getD k zN) (x ++ tick)))) then (zN, 180)
        else (putS p n (rebS m y (exS x y (m.kids.getD k zN))), 0)
theorem root_small {n : NodeA} (h : rootS n = 0) : n.size ≤ 4000 ∧ n.lev ≤ 60 := by
  unfold rootS checkS at h
  revert h
  cases (sortS n.op == 0 || sortS n.op == 4) <;> cases (decide (sortS n.op < 1) || decide (3 < sortS n.op)) <;> simp
  intro h
  by_cases h1 : (n.size : Int) ≤ 4000 ∧ (n.lev : Int) ≤ 60
  · omega
  · rw [if_neg (by omega)] at h; cases h
theorem root_of {n n' : NodeA} (h : rootS n = 0) (h1 : n'.op = n.op) (h2 : n'.size = n.size) (h3 : n'.lev = n.lev) (h4 : okS n' false false false = true) : rootS n' = 0 := by
  have hok := (rootS_ok h).1
  unfold rootS checkS at h ⊢
  rw [h1, h2, h3, h4]
  rw [hok] at h
  exact h
section
variable {K : Nat} {n : NodeA} {p : List Int}
theorem tree_root_eq (hK : 12 < K) (hK2 : 2 * n.size ≤ K) (hb : n.size ≤ big) : tree_root K n = some (rootS n) := by
  unfold tree_root rootS
  simp only [tree_Sort_eq, Option.bind_some, orO]
  cases (sortS n.op == 0 || sortS n.op == 4) with
  | true => rfl
  | false => simp only [Bool.false_eq_true, if_false, Option.bind_some, Out.fin_go, tree_Check_eq hK hK2 hb]
theorem r08_whole_eq (hK : 12 < K) (hK2 : 2 * n.size ≤ K) (hb : n.size ≤ big) (hw : n.words) : r08_whole K n = some (rootS n) := by
  unfold r08_whole rootS
  simp only [r08_Sort_eq, Option.bind_some, orO]
  cases (sortS n.op == 0 || sortS n.op == 4) with
  | true => rfl
  | false => simp only [Bool.false_eq_true, if_false, Option.bind_some, Out.fin_go, r08_Check_eq hK hK2 hb hw]
theorem tree_At_eq (hK : 12 < K) (hK2 : 2 * n.size ≤ K) (hb : n.size ≤ big) (hr : rootS n = 0) (hp : p.length < K) (hpb : p.length ≤ 9223372036854775807) : tree_At K n p = some (match stepS p n with | some m => (m, 0) | none => (zN, 1)) := by
  unfold tree_At
  rw [tree_root_eq hK hK2 hb, hr]
  simp only [Option.bind_some, bne_self_eq_false, Bool.false_eq_true, if_false, tree_step_eq hp hpb]
  cases hs : stepS p n with
  | none => rfl
  | some m =>
    have hf : FewN m := fine_fewN m (step_at Fine (fun n h k hk => fine_kid h hk) ⟨_, _, _, (rootS_ok hr).1⟩ hs)
    have hsz := (step_le hs).1
    simp only [Option.isSome_some, Bool.not_true, Bool.false_eq_true, if_false, Option.getD_some, copy_eq (K := K) hf (by omega) (by omega), Option.bind_some]
theorem r08_At_eq (hK : 12 < K) (hK2 : 2 * n.size ≤ K) (hb : n.size ≤ big) (hw : n.words) (hr : rootS n = 0) (hp : p.length < K) (hpb : p.length ≤ 9223372036854775807) : r08_At K n p = some (match stepS p n with | some m => (m, 0) | none => (zN, 1)) := by
  unfold r08_At
  rw [r08_whole_eq hK hK2 hb hw, hr]
  simp only [Option.bind_some, bne_self_eq_false, Bool.false_eq_true, if_false, r08_at_eq hp hpb]
  cases hs : stepS p n with
  | none => rfl
  | some m => simp only [Option.isSome_some, Bool.not_true, Bool.false_eq_true, if_false, Option.getD_some]
theorem tree_Replace_eq {m w : NodeA} (hK : 12 < K) (hK2 : 2 * n.size ≤ K) (hb : n.size ≤ big) (hr : rootS n = 0) (hp : p.length < K) (hpb : p.length ≤ 9223372036854775807) (hs : stepS p n = some m) (hm : sortS m.op = 2) (hw : Sim m w)
    (hok : ∀ d fd fl, okS m d fd fl = true → okS w d fd fl = true) : tree_Replace K n p w = some (putS p n w, 0) := by
  have hsz := step_le hs
  have hsm := root_small hr
  have hn := (rootS_ok hr).1
  have hfm : Fine m := step_at Fine (fun n h k hk => fine_kid h hk) ⟨_, _, _, hn⟩ hs
  have hfw : Fine w := by obtain ⟨d, fd, fl, h⟩ := hfm; exact ⟨d, fd, fl, hok _ _ _ h⟩
  have hs4 : sortS m.op ≠ 4 := by omega
  have hsim := put_sim hs hs4 hw
  have hokp := put_ok hs hs4 hw hok _ _ _ hn
  have hrp := root_of hr hsim.op hsim.size hsim.lev hokp
  obtain ⟨r, hwi, hwr⟩ := tree_within_eq (K := K) (n := w) (by rw [hw.size]; omega) (by rw [hw.size]; omega)
  have hr1 : r.1 = true := by
    unfold Within at hwr
    rw [if_pos ⟨by rw [hw.size]; omega, by rw [hw.lev]; omega⟩] at hwr
    rw [hwr]
  have hput := tree_put_eq (K := K) (fine_fewN w hfw) (by rw [hw.size]; omega) (by rw [hw.size]; omega) hs (fine_fewN n ⟨_, _, _, hn⟩) (by omega) hb hp (by omega)
  have hchk : tree_Check K (putS p n w) (sortS n.op) = some 0 := by
    rw [tree_Check_eq hK (by rw [hsim.size]; omega) (by rw [hsim.size]; omega)]
    have h2 := hrp
    have hz := (rootS_ok hr).2
    unfold rootS at h2
    rw [hsim.op] at h2
    cases e : (sortS n.op == 0 || sortS n.op == 4) with
    | true => rw [e] at h2; simp only [if_true] at h2; cases h2
    | false => rw [e] at h2; simp only [Bool.false_eq_true, if_false] at h2; rw [h2]
  unfold tree_Replace
  rw [tree_root_eq hK hK2 hb, hr]
  simp only [Option.bind_some, bne_self_eq_false, Bool.false_eq_true, if_false, tree_step_eq hp hpb, hs, Option.isSome_some, Bool.not_true, Option.getD_some, tree_Sort_eq, hw.op, hm]
  have e20 : ((2 : Int) == 0) = false := rfl
  simp only [e20, Bool.false_eq_true, if_false, Out.fin_go, hwi, hr1, Bool.not_true, hput, Option.bind_some, tree_Sort_eq, hsim.op, hchk, bne_self_eq_false]
theorem r10_Has_eq {V : List ByteArray} {A : Api_NamesA} {v : ByteArray} (h : Good V A) (hK : A.list.length < K) : r10_Has K A v = some (inS A v) := by
  have ht : topV = 1000000000000 := rfl
  have := h.lt
  unfold r10_Has
  rw [listed_eq hK (show A.list.length ≤ big by unfold big; omega)]; rfl
theorem r18_touches_eq {V : List ByteArray} {f : NodeA} {v : ByteArray} (hV : Uni V) (hf : Fine f) (hc : Cov V f) (hb : f.size ≤ big) (hK : KR V f K) : r18_touches K f v = some (touS f v) := by
  have g1 := good_free hV f hf hc
  have g2 := good_bndR hV f hf hc
  unfold r18_touches touS
  rw [r10_FreeOf_eq hV hf hc hb hK, r10_BoundOf_eq hV hf hc hb hK]
  simp only [Option.bind_some, r10_Has_eq g1 (show (freeS f).list.length < K by have := g1.len; have := hK.1.2; omega), r10_Has_eq g2 (show (bndR f).list.length < K by have := g2.len; have := hK.1.2; omega)]
  cases inS (freeS f) v <;> rfl
theorem r18_Bound_eq {y : ByteArray} (hK : 12 < K) (hK2 : 6 * n.size + 40 ≤ K) (hb : n.size ≤ 100000000) (hw : n.words) (hp : p.length < K) (hpb : p.length ≤ 9223372036854775807) : r18_Bound K n p y = some (boundA n p y) := by
  have hbig : n.size ≤ big := by unfold big; omega
  unfold r18_Bound boundA
  rw [r18_check_eq hK (by omega) hbig hw, Option.bind_some]
  by_cases hr : rootS n = 0
  rotate_left
  · have e : (rootS n != 0) = true := by simpa using hr
    rw [e]; rfl
  have e : (rootS n != 0) = false := by simpa using hr
  rw [e]
  simp only [Bool.false_eq_true, if_false]
  rw [r08_At_eq hK (by omega) hbig hw hr hp hpb]
  cases hs : stepS p n with
  | none => rfl
  | some m =>
    have hf : Fine m := step_at Fine (fun n h k hk => fine_kid h hk) ⟨_, _, _, (rootS_ok hr).1⟩ hs
    have hsz := (step_le hs).1
    have hcm : Cov (uniL n) m := step_at (Cov (uniL n)) (fun n h k hk => cov_kid h hk) (cov_uni n) hs
    simp only [Option.bind_some, bne_self_eq_false, Bool.false_eq_true, if_false, r18_binder_eq hf, r08_Name_eq hK]
    cases hbd : bindS m with
    | none => cases nameB y <;> rfl
    | some q =>
      obtain ⟨x, k⟩ := q
      obtain ⟨f, B⟩ := binds_of hf hbd
      have hkid : m.kids.getD k zN = f := by rw [List.getD_eq_getElem?_getD, B.kid.1]; rfl
      have hff := fine_kid hf B.kid.2
      have hfs := NodeA.size_lt B.kid.2
      have hcf := cov_kid hcm B.kid.2
      have hV := uni_uni (n := n) hb
      have hl : (uniL n).length ≤ 2 * n.size := by
        unfold uniL
        rw [List.length_append, List.length_map]
        have := List.length_filter_le nameB (namesN n)
        rw [names_len] at this; omega
      have hKR : KR (uniL n) f K := ⟨⟨hK, by omega⟩, by omega⟩
      have hbf : f.size ≤ big := by omega
      simp only [hkid]
      cases hn : nameB y with
      | false => rfl
      | true =>
        have sx := (name_size B.name).2
        have sy := (name_size hn).2
        simp only [Bool.not_true, Bool.false_eq_true, if_false, Option.bind_some, Out.fin_go, r18_renamable_eq (show f.size ≤ K by omega) hbf, r18_touches_eq hV hff hcf hbf hKR, catO_tick (show y.size < 100 by omega), catO_tick (show x.size < 100 by omega)]
        cases e1 : (x.toList == y.toList) with
        | true => rfl
        | false =>
        cases e2 : renB f with
        | false => rfl
        | true =>
        cases e3 : touS f y with
        | true => rfl
        | false =>
        cases e4 : touS f (y ++ tick) with
        | true => rfl
        | false =>
        cases e5 : touS f (x ++ tick) with
        | true => rfl
        | false =>
          have hu : r18_Exchange K f x y = some (exS x y f) := by
            unfold r18_Exchange
            exact exchange_iter f K (by omega) (by omega) hbf
          have hreb : r18_rebound K m y (exS x y f) = some (rebS m y (exS x y f)) := by
            unfold r18_rebound rebS
            cases B with
            | q o m r f ho => rcases ho with rfl | rfl <;> rfl
            | m o m r a f ho ha => rcases ho with rfl | rfl <;> rfl
          simp only [Bool.not_true, Bool.false_eq_true, if_false, Option.bind_some, Out.fin_go, Bool.or_false, Bool.false_or, hu, hreb, r08_Put_eq (K := K) (w := rebS m y (exS x y f)) hs hbig hp (by have := (step_le hs).1; omega)]
theorem rename_Bound_eq {y : ByteArray} (hK : 12 < K) (hK2 : 6 * n.size + 40 ≤ K) (hb : n.size ≤ 100000000) (hp : p.length < K) (hpb : p.length ≤ 9223372036854775807) : rename_Bound K n p y = some (boundA n p y) := by
  have hbig : n.size ≤ big := by unfold big; omega
  unfold rename_Bound boundA
  rw [rename_check_eq hK (by omega) hbig, Option.bind_some]
  by_cases hr : rootS n = 0
  rotate_left
  · have e : (rootS n != 0) = true := by simpa using hr
    rw [e]; rfl
  have e : (rootS n != 0) = false := by simpa using hr
  rw [e]
  simp only [Bool.false_eq_true, if_false]
  rw [tree_At_eq hK (by omega) hbig hr hp hpb]
  cases hs : stepS p n with
  | none => rfl
  | some m =>
    have hf : Fine m := step_at Fine (fun n h k hk => fine_kid h hk) ⟨_, _, _, (rootS_ok hr).1⟩ hs
    have hsz := (step_le hs).1
    have hcm : Cov (uniL n) m := step_at (Cov (uniL n)) (fun n h k hk => cov_kid h hk) (cov_uni n) hs
    simp only [Option.bind_some, bne_self_eq_false, Bool.false_eq_true, if_false, rename_binder_eq hf, tree_Name_eq hK]
    cases hbd : bindS m with
    | none => cases nameB y <;> rfl
    | some q =>
      obtain ⟨x, k⟩ := q
      obtain ⟨f, B⟩ := binds_of hf hbd
      have hkid : m.kids.getD k zN = f := by rw [List.getD_eq_getElem?_getD, B.kid.1]; rfl
      have hff := fine_kid hf B.kid.2
      have hfs := NodeA.size_lt B.kid.2
      have hcf := cov_kid hcm B.kid.2
      have hV := uni_uni (n := n) hb
      have hl : (uniL n).length ≤ 2 * n.size := by
        unfold uniL
        rw [List.length_append, List.length_map]
        have := List.length_filter_le nameB (namesN n)
        rw [names_len] at this; omega
      have hKS : KS (uniL n) f K := ⟨⟨hK, by omega⟩, by omega⟩
      have hbf : f.size ≤ big := by omega
      have g1 := good_free hV f hff hcf
      have g2 := good_bndR hV f hff hcf
      have h1 := fun v => static_Has_eq (K := K) (v := v) g1 (by have := g1.len; have := hKS.1.2; omega)
      have h2 := fun v => static_Has_eq (K := K) (v := v) g2 (by have := g2.len; have := hKS.1.2; omega)
      have hsf : sortS f.op ≠ 0 := by
        cases B with
        | q _ _ _ _ _ _ h => omega
        | m _ _ _ _ _ _ _ _ h => omega
      have hix : idx m.kids (k : Int) = some f := by rw [idx_nat]; exact B.kid.1
      simp only [hkid]
      cases hn : nameB y with
      | false => rfl
      | true =>
        have sx := (name_size B.name).2
        have sy := (name_size hn).2
        simp only [Bool.not_true, Bool.false_eq_true, if_false, Option.bind_some, Out.fin_go, hix, rename_renamable_eq (show f.size ≤ K by omega) hK hbf]
        cases e2 : renB f with
        | false => cases (x.toList == y.toList) <;> rfl
        | true =>
        cases e1 : (x.toList == y.toList) with
        | true => rfl
        | false =>
        simp only [Bool.not_true, Bool.false_eq_true, if_false, Option.bind_some, Out.fin_go, Bool.false_or, stat_FreeOf hV hff hcf hbf hKS, stat_BoundOf hV hff hcf hbf hsf hKS, catO_tick (show y.size < 100 by omega), catO_tick (show x.size < 100 by omega), h1, h2, orO]
        have hloop : iter (S := Int) (R := Out Unit (NodeA × Int)) K (fun (again : Int → Option (Out Unit (NodeA × Int))) (i37_0 : Int) => 
            if (decide (i37_0 < ([y, y ++ tick, x ++ tick].length : Int))) then
              ((
                (idx [y, y ++ tick, x ++ tick] i37_0).bind fun x44 => 
                (if (inS (freeS f) x44 || inS (bndR f) x44) then
                  outM (outM (some (zN, (180 : Int))))
                else some (.go ()) : Option (Out Unit (Out Unit (NodeA × Int))))) : Option (Out Unit _)).bind (Out.fin fun _ => again (IntKind.wrap .i64 (i37_0 + (1 : Int))))
            else some (.go ())) 0 = some (if ([y, y ++ tick, x ++ tick].all fun v => !touS f v) then .go () else .out (zN, 180)) := by
          refine scan [y, y ++ tick, x ++ tick] (fun v => !touS f v) (zN, 180) (by simp) (fun g i v hv => ?_) (fun g i hi => ?_) (by simp; omega)
          · have hi := (List.getElem?_eq_some_iff.1 hv).1
            simp only [lt_tn hi, if_true, idx_nat, hv, Option.bind_some]
            show _ = if (!touS f v) = true then _ else _
            unfold touS
            cases (inS (freeS f) v || inS (bndR f) v) <;> rfl
          · simp only [lt_fn hi, Bool.false_eq_true, if_false]
        refine ob _ hloop ?_
        simp only [List.all_cons, List.all_nil, Bool.and_true]
        cases e3 : touS f y with
        | true => rfl
        | false =>
        cases e4 : touS f (y ++ tick) with
        | true => rfl
        | false =>
        cases e5 : touS f (x ++ tick) with
        | true => rfl
        | false =>
          have hu : rename_uniform K f x y = some (exS x y f) := by
            unfold rename_uniform rename_uniform_2
            rw [uniform_iter f K hff (by omega) (by omega) hbf]; rfl
          have hR : tree_Replace K n p (rebS m y (exS x y f)) = some (putS p n (rebS m y (exS x y f)), 0) :=
            tree_Replace_eq hK (by omega) hbig hr hp hpb hs B.sort (reb_sim B) (reb_ok B hn)
          simp only [Bool.not_false, Bool.and_self, Bool.and_true, if_true, Out.fin_go, hu, Option.bind_some, Bool.or_false, Bool.false_eq_true, if_false]
          have hreb : ((if ((k : Int) == (0 : Int)) then some (y, (m.kids.set ((k : Int).toNat) (exS x y f)))
            else (idx (m.kids.set ((k : Int).toNat) (exS x y f)) (0 : Int)).bind fun x61 => some (m.name, ((m.kids.set ((k : Int).toNat) (exS x y f)).set ((0 : Int).toNat) (NodeA.mk x61.op y x61.num x61.kids)))) : Option (ByteArray × (List NodeA))) = some ((rebS m y (exS x y f)).name, (rebS m y (exS x y f)).kids) := by
            unfold rebS
            cases B with
            | q o m r f ho => rcases ho with rfl | rfl <;> rfl
            | m o m r a f ho ha => rcases ho with rfl | rfl <;> rfl
          refine ob _ hreb ?_
          have hmk : NodeA.mk m.op (rebS m y (exS x y f)).name m.num (rebS m y (exS x y f)).kids = rebS m y (exS x y f) := by
            have hsim := reb_sim (y := y) B
            rw [← hsim.op, ← hsim.num]; exact NodeA.eta _
          rw [hmk, hR]; rfl
end
theorem bound_cases {n : NodeA} {p : List Int} {y : ByteArray} {K : Nat} (hK : 200 < K) (hK2 : 6 * n.size + 40 ≤ K) (hb : n.size ≤ 100000000) :
    (∃ e : Int, e ≠ 0 ∧ boundA n p y = (zN, e)) ∨ ∃ r, boundA n p y = (r, 0) ∧ r08_Equal K r r = some true ∧ r10_FreeOf K r = some (freeS n) ∧ r10_FreeOf K n = some (freeS n) ∧ r10_Same K (freeS n) (freeS n) = some true := by
  have hbig : n.size ≤ big := by unfold big; omega
  by_cases hr : rootS n = 0
  rotate_left
  · exact .inl ⟨rootS n, hr, by unfold boundA; rw [show (rootS n != 0) = true by simpa using hr]; rfl⟩
  have e : (rootS n != 0) = false := by simpa using hr
  cases hs : stepS p n with
  | none => exact .inl ⟨1, by decide, by unfold boundA; rw [e, hs]; rfl⟩
  | some m =>
  cases hbd : bindS m with
  | none => exact .inl ⟨3, by decide, by unfold boundA; rw [e, hs]; simp only [Bool.false_eq_true, if_false, hbd]⟩
  | some q =>
  obtain ⟨x, k⟩ := q
  cases hn : nameB y with
  | false => exact .inl ⟨3, by decide, by unfold boundA; rw [e, hs]; simp only [Bool.false_eq_true, if_false, hbd, hn, Bool.not_false, if_true]⟩
  | true =>
  have hf : Fine m := step_at Fine (fun n h k hk => fine_kid h hk) ⟨_, _, _, (rootS_ok hr).1⟩ hs
  obtain ⟨f, B⟩ := binds_of hf hbd
  have hkid : m.kids.getD k zN = f := by rw [List.getD_eq_getElem?_getD, B.kid.1]; rfl
  cases ht : ((x.toList == y.toList) || (!renB f || (touS f y || (touS f (y ++ tick) || touS f (x ++ tick))))) with
  | true => exact .inl ⟨180, by decide, by unfold boundA; rw [e, hs]; simp only [Bool.false_eq_true, if_false, hbd, hn, Bool.not_true, hkid, ht, if_true]⟩
  | false =>
  refine .inr ⟨putS p n (rebS m y (exS x y f)), by unfold boundA; rw [e, hs]; simp only [Bool.false_eq_true, if_false, hbd, hn, Bool.not_true, hkid, ht], ?_⟩
  simp only [Bool.or_eq_false_iff] at ht
  obtain ⟨t1, t2, t3, t4, t5⟩ := ht
  unfold touS at t3 t4 t5
  simp only [Bool.or_eq_false_iff] at t3 t4 t5
  have hsz := step_le hs
  have hn0 := (rootS_ok hr).1
  have h2 := two_uni (n := n) hb B.name hn
  have hcm : Cov (uniT n x y) m := step_at (Cov (uniT n x y)) (fun n h k hk => cov_kid h hk) cov_T hs
  have hs4 : sortS m.op ≠ 4 := by rw [B.sort]; decide
  have hsim := put_sim (w := rebS m y (exS x y f)) hs hs4 (reb_sim B)
  have hok := put_ok (w := rebS m y (exS x y f)) hs hs4 (reb_sim B) (reb_ok B hn) _ _ _ hn0
  obtain ⟨rf1, rf2⟩ := reb_free h2 B hf hcm t3.1 t4.1 t5.1
  obtain ⟨pf, _⟩ := put_free (w := rebS m y (exS x y f)) hs hs4 (reb_sim B) rf1 rf2
  have hc : Cov (uniT n x y) n := cov_T
  have hc' : Cov (uniT n x y) (putS p n (rebS m y (exS x y f))) := fun v hv hvn => by
    rcases put_names hv with h | h
    · exact cov_T v h hvn
    · rcases reb_names B h with h | rfl
      · exact hcm v h hvn
      · exact ⟨by simp [uniT], by simp [uniT]⟩
  have hfp : Fine (putS p n (rebS m y (exS x y f))) := ⟨_, _, _, hok⟩
  have hl : (uniT n x y).length ≤ 2 * n.size + 4 := by
    unfold uniT uniL
    rw [List.length_append, List.length_append, List.length_map]
    have := List.length_filter_le nameB (namesN n)
    rw [names_len] at this; simp; omega
  have hKR : KR (uniT n x y) n K := ⟨⟨by omega, by omega⟩, by omega⟩
  have hKR' : KR (uniT n x y) (putS p n (rebS m y (exS x y f))) K := ⟨⟨by omega, by omega⟩, by rw [hsim.size]; omega⟩
  have qf := r10_FreeOf_eq h2.uni ⟨_, _, _, hn0⟩ hc hbig hKR
  have qf' := r10_FreeOf_eq h2.uni hfp hc' (by rw [hsim.size]; omega) hKR'
  rw [pf] at qf'
  have gf := good_free h2.uni n ⟨_, _, _, hn0⟩ hc
  exact ⟨equal_refl (by omega) (fine_fewN _ hfp) (by rw [hsim.size]; omega) (by rw [hsim.size]; omega), qf', qf, same_eq (by have := gf.len; omega) gf.lt⟩
theorem bound_law {n : NodeA} {p : List Int} {y : ByteArray} (hb : n.size ≤ 100000000) (hpb : p.length ≤ 9223372036854775807) (hw : n.words) : ∃ K, law18_RenameBound K n p y = some true := by
  refine ⟨6 * n.size + p.length + 300 + 200, ?_⟩
  obtain ⟨K, hKe⟩ : ∃ K, K = 6 * n.size + p.length + 300 + 200 := ⟨_, rfl⟩
  have haw : law18_awake K = some true := by rw [hKe]; exact awake18_eq _
  rw [← hKe]
  have hp := n.size_pos
  have hbig : n.size ≤ big := by unfold big; omega
  have hU := rename_Bound_eq (K := K) (n := n) (p := p) (y := y) (by omega) (by omega) hb (by omega) hpb
  have hR := r18_Bound_eq (K := K) (n := n) (p := p) (y := y) (by omega) (by omega) hb hw (by omega) hpb
  have hzf : FewN zN := by rw [FewN_mk]; exact ⟨⟨by simp, by simp⟩, fun k hk => by cases hk⟩
  have hzs : zN.size = 1 := by rw [NodeA.size_mk]; simp
  have hzE : r08_Equal K zN zN = some true := equal_refl (by omega) hzf (by omega) (by unfold big; omega)
  unfold law18_RenameBound
  simp only [haw, Option.bind_some, Bool.not_true, Bool.false_eq_true, if_false, r08_Size_eq (show n.size ≤ K by omega) hbig, hU, hR, bne_self_eq_false]
  cases decide ((1000 : Int) < (n.size : Int)) with
  | true => rfl
  | false =>
  simp only [Bool.false_eq_true, if_false]
  rcases bound_cases (K := K) (n := n) (p := p) (y := y) (by omega) (by omega) hb with ⟨e, he, h⟩ | ⟨r, h, q1, q2, q3, q4⟩
  · have e2 : (e != 0) = true := by simpa using he
    simp only [h, hzE, Option.bind_some, Bool.not_true, Bool.false_eq_true, if_false, Out.fin_go, e2, if_true]
  · simp only [h, q1, q2, q3, q4, Option.bind_some, Bool.not_true, Bool.false_eq_true, if_false, Out.fin_go, bne_self_eq_false]
end Go.Proofs.YtngmfimpaembnaaGreatDoor
