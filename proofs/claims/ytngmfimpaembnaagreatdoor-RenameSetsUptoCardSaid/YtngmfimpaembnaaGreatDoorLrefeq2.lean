/- Part of the proof of a law: contracts of the functions that the law reaches, or plain laws of them, out of the abstract layer (the texts YtngmfimpaembnaaGreatDoorIso..). No condition. -/
import Derived.Test.YtngmfimpaembnaaGreatDoorLrefeq
namespace Go.Proofs.YtngmfimpaembnaaGreatDoor
open Go Go.Iso Go.Proofs
set_option linter.unusedSimpArgs false
set_option linter.unusedVariables false
set_option maxRecDepth 100000
/-! ### Free -/
section
variable {K : Nat} {s : NodeA → Option Api_NamesA} {m : ByteArray} {r : RatA} {ks : List NodeA}
theorem rf2 : r10_free_body K s (.mk 2 m r ks) = some (oneS m) := by
  unfold r10_free_body
  generalize catO = C
  kernel_rfl
theorem rf3 {x : ByteArray} (hc : catO m tick = some x) : r10_free_body K s (.mk 3 m r ks) = some (oneS x) := by
  unfold r10_free_body
  simp only [NodeA.name_mk]
  generalize catO m ⟨#[39]⟩ = c at hc ⊢
  subst hc
  kernel_rfl
theorem rfA {n : NodeA} (h : n.op = 11 ∨ n.op = 38 ∨ n.op = 61 ∨ n.op = 62 ∨ n.op = 56) : r10_free_body K s n = some allS := by
  obtain ⟨op, m, r, ks⟩ := n
  simp only [NodeA.op_mk] at h
  unfold r10_free_body
  generalize catO = C
  rcases h with rfl | rfl | rfl | rfl | rfl <;> kernel_rfl
theorem rf12 {op : Int} {k0 : NodeA} {a F : Api_NamesA} (h : op = 12 ∨ op = 39) (h0 : s k0 = some a) (hp : (if a.all then some allS else r10_primed K a) = some F) : r10_free_body K s (.mk op m r [k0]) = some F := by
  unfold r10_free_body
  generalize catO = C
  generalize r10_primed K = P at hp ⊢
  have fin : (if a.all then outM (some allS) else (P a).bind fun y => outM (some y)) = some (Out.out F : Out Unit Api_NamesA) := by
    cases ha : a.all with
    | true => rw [ha] at hp; simp only [if_true] at hp ⊢; cases hp; rfl
    | false => rw [ha] at hp; simp only [Bool.false_eq_true, if_false] at hp ⊢; rw [hp]; rfl
  rcases h with rfl | rfl
  · exact ob _ (Eq.trans (b := (s k0).bind fun x => if x.all then outM (some allS) else (P x).bind fun y => outM (some y)) (by kernel_rfl) (ob _ h0 fin)) rfl
  · exact ob _ (Eq.trans (b := (s k0).bind fun x => if x.all then outM (some allS) else (P x).bind fun y => outM (some y)) (by kernel_rfl) (ob _ h0 fin)) rfl
theorem rf33 {op : Int} {k0 : NodeA} {a F : Api_NamesA} (h : op = 33 ∨ op = 34) (h0 : s k0 = some a) (hp : r10_minus K a (oneS m) = some F) : r10_free_body K s (.mk op m r [k0]) = some F := by
  unfold r10_free_body
  generalize catO = C
  generalize r10_minus K = P at hp ⊢
  rcases h with rfl | rfl
  · exact ob _ (Eq.trans (b := (s k0).bind fun x => (P x (oneS m)).bind fun y => outM (some y)) (by kernel_rfl) (ob _ h0 (ob _ hp rfl))) rfl
  · exact ob _ (Eq.trans (b := (s k0).bind fun x => (P x (oneS m)).bind fun y => outM (some y)) (by kernel_rfl) (ob _ h0 (ob _ hp rfl))) rfl
theorem rf57 {op : Int} {k0 k1 : NodeA} {a b M d u : Api_NamesA} (h : op = 35 ∨ op = 36 ∨ op = 57) (h0 : s k0 = some a) (h1 : s k1 = some b) (hM : r10_must K k0 = some M) (hd : r10_minus K b M = some d) (hu : r10_join K a d = some u) : r10_free_body K s (.mk op m r [k0, k1]) = some u := by
  unfold r10_free_body
  generalize catO = C
  generalize r10_minus K = P at hd ⊢
  generalize r10_join K = U at hu ⊢
  generalize r10_must K = T at hM ⊢
  rcases h with rfl | rfl | rfl
  · exact ob _ (Eq.trans (b := (s k0).bind fun x => (s k1).bind fun y => (T k0).bind fun z => (P y z).bind fun w => (U x w).bind fun v => outM (some v)) (by kernel_rfl) (ob _ h0 (ob _ h1 (ob _ hM (ob _ hd (ob _ hu rfl)))))) rfl
  · exact ob _ (Eq.trans (b := (s k0).bind fun x => (s k1).bind fun y => (T k0).bind fun z => (P y z).bind fun w => (U x w).bind fun v => outM (some v)) (by kernel_rfl) (ob _ h0 (ob _ h1 (ob _ hM (ob _ hd (ob _ hu rfl)))))) rfl
  · exact ob _ (Eq.trans (b := (s k0).bind fun x => (s k1).bind fun y => (T k0).bind fun z => (P y z).bind fun w => (U x w).bind fun v => outM (some v)) (by kernel_rfl) (ob _ h0 (ob _ h1 (ob _ hM (ob _ hd (ob _ hu rfl)))))) rfl
theorem rf55 {e u : Api_NamesA} (he : iter K (kidsJ K s ks) (0, noneS) = some e) (hu : r10_join K e (oneS m) = some u) : r10_free_body K s (.mk 55 m r ks) = some u := by
  unfold r10_free_body
  generalize catO = C
  exact Eq.trans (b := (iter K (kidsJ K s ks) (0, noneS)).bind fun e => ((r10_join K e (oneS m)).bind fun u => some u).bind fun v => some v) (by kernel_rfl) (ob _ he (ob _ (ob _ hu rfl) rfl))
theorem rfN {n : NodeA} {e : Api_NamesA} (he : iter K (kidsJ K s n.kids) (0, noneS) = some e) (h2 : n.op ≠ 2) (h3 : n.op ≠ 3) (hA : ¬ (n.op = 11 ∨ n.op = 38 ∨ n.op = 61 ∨ n.op = 62 ∨ n.op = 56)) (h12 : ¬ (n.op = 12 ∨ n.op = 39)) (h33 : ¬ (n.op = 33 ∨ n.op = 34)) (h57 : ¬ (n.op = 35 ∨ n.op = 36 ∨ n.op = 57)) (h55 : n.op ≠ 55) : r10_free_body K s n = some e := by
  unfold r10_free_body
  rw [beq_eq_false_iff_ne.2 h2, beq_eq_false_iff_ne.2 h3, beq_eq_false_iff_ne.2 (show n.op ≠ 11 by omega), beq_eq_false_iff_ne.2 (show n.op ≠ 38 by omega), beq_eq_false_iff_ne.2 (show n.op ≠ 61 by omega), beq_eq_false_iff_ne.2 (show n.op ≠ 62 by omega), beq_eq_false_iff_ne.2 (show n.op ≠ 56 by omega), beq_eq_false_iff_ne.2 (show n.op ≠ 12 by omega), beq_eq_false_iff_ne.2 (show n.op ≠ 39 by omega), beq_eq_false_iff_ne.2 (show n.op ≠ 33 by omega), beq_eq_false_iff_ne.2 (show n.op ≠ 34 by omega), beq_eq_false_iff_ne.2 (show n.op ≠ 35 by omega), beq_eq_false_iff_ne.2 (show n.op ≠ 36 by omega), beq_eq_false_iff_ne.2 (show n.op ≠ 57 by omega), beq_eq_false_iff_ne.2 h55]
  generalize catO n.name ⟨#[39]⟩ = c
  exact Eq.trans (b := (iter K (kidsJ K s n.kids) (0, noneS)).bind fun e => (some e).bind fun v => some v) (by kernel_rfl) (ob _ he rfl)
end
section
variable {V : List ByteArray}
theorem free_iter {K : Nat} (hV : Uni V) : ∀ (n : NodeA) (j : Nat), Fine n → Cov V n → n.size ≤ big → n.size ≤ j → KR V n K → iter j (fun self q => r10_free_body K self q) n = some (freeS n) := by
  refine NodeA.ind fun n ih => ?_
  intro j hf hc hb hj hK
  have hp := n.size_pos
  have hkl := n.kids_lt
  obtain ⟨j, rfl⟩ : ∃ i, j = i + 1 := ⟨j - 1, by omega⟩
  rw [iter_succ, freeS_eq]
  have ih' : ∀ k ∈ n.kids, iter j (fun self q => r10_free_body K self q) k = some (freeS k) := fun k hk => ih k hk j (fine_kid hf hk) (cov_kid hc hk) (by have := NodeA.size_lt hk; omega) (by have := NodeA.size_lt hk; omega) (kr_kid hK hk)
  have hg : ∀ k ∈ n.kids, Good V (freeS k) := fun k hk => good_free hV k (fine_kid hf hk) (cov_kid hc hk)
  have hM : ∀ k ∈ n.kids, Good V (mustS k) ∧ r10_must K k = some (mustS k) := fun k hk => ⟨good_must hV k (fine_kid hf hk) (cov_kid hc hk), r10_must_eq hV (fine_kid hf hk) (cov_kid hc hk) (by have := NodeA.size_lt hk; omega) (kr_kid hK hk)⟩
  have hgn : namedS n.op = true → Good V (oneS n.name) ∧ Good V (oneS (n.name ++ tick)) ∧ n.name.size < 100 := good_name hV hf hc
  generalize iter j (fun self q => r10_free_body K self q) = S at ih' ⊢
  have hloop : iter K (kidsJ K S n.kids) (0, noneS) = some (unL noneS (n.kids.map freeS)) := kidsJ_eq n.kids freeS ih' hg (good_none hV _) hK.1 (by have := hK.2; omega) (by omega)
  have two := fun (a b : Int) (h : sortsC n = [a, b]) => sorts2 hf h
  have one := fun (a : Int) (h : sortsC n = [a]) => sorts1 hf h
  have hK1 := hK.1
  unfold freeB
  by_cases h2 : n.op = 2
  · rw [if_pos h2]
    clear ih hj hp hkl hb hc hf two one ih' hg hgn hM hloop hK
    obtain ⟨op, m, r, ks⟩ := n
    simp only [NodeA.op_mk] at h2
    subst h2
    exact rf2
  rw [if_neg h2]
  by_cases h3 : n.op = 3
  · have hn := hgn (named_b (by omega))
    rw [if_pos h3]
    clear ih hj hp hkl hb hc hf two one ih' hg hgn hM hloop hK
    obtain ⟨op, m, r, ks⟩ := n
    simp only [NodeA.op_mk, NodeA.name_mk] at h3 hn ⊢
    subst h3
    exact rf3 (catO_tick hn.2.2)
  rw [if_neg h3]
  by_cases hA : n.op = 11 ∨ n.op = 38 ∨ n.op = 61 ∨ n.op = 62 ∨ n.op = 56
  · rw [if_pos hA]; exact rfA hA
  rw [if_neg hA]
  by_cases h12 : n.op = 12 ∨ n.op = 39
  · obtain ⟨k0, hks⟩ : ∃ k0, n.kids = [k0] := by
      rcases h12 with h | h
      · obtain ⟨k0, hks, _⟩ := one 1 (by unfold sortsC; rw [h]; rfl)
        exact ⟨k0, hks⟩
      · obtain ⟨k0, hks, _⟩ := one 2 (by unfold sortsC; rw [h]; rfl)
        exact ⟨k0, hks⟩
    have m0 : k0 ∈ n.kids := by rw [hks]; simp
    have q0 := ih' k0 m0
    have g0 := hg k0 m0
    have hp' : (if (freeS k0).all then some allS else r10_primed K (freeS k0)) = some (if (freeS k0).all then allS else prmS (freeS k0)) := by
      rw [primed_eq g0 hK1]; split <;> rfl
    rw [if_pos h12]
    clear ih hj hp hkl hb hc hf two one ih' hg hgn hM hloop hK m0
    obtain ⟨op, m, r, ks⟩ := n
    simp only [NodeA.op_mk, NodeA.kids_mk] at h12 hks ⊢
    subst hks
    exact rf12 h12 q0 hp'
  rw [if_neg h12]
  by_cases h33 : n.op = 33 ∨ n.op = 34
  · obtain ⟨k0, hks⟩ : ∃ k0, n.kids = [k0] := by
      rcases h33 with h | h
      · obtain ⟨k0, hks, _⟩ := one 2 (by unfold sortsC; rw [h]; rfl)
        exact ⟨k0, hks⟩
      · obtain ⟨k0, hks, _⟩ := one 2 (by unfold sortsC; rw [h]; rfl)
        exact ⟨k0, hks⟩
    have m0 : k0 ∈ n.kids := by rw [hks]; simp
    have q0 := ih' k0 m0
    have hn := hgn (named_b (by omega))
    have hm := minus_eq (hg k0 m0) hn.1 hK1
    rw [if_pos h33]
    clear ih hj hp hkl hb hc hf two one ih' hg hgn hM hloop hK m0 hn
    obtain ⟨op, m, r, ks⟩ := n
    simp only [NodeA.op_mk, NodeA.kids_mk, NodeA.name_mk] at h33 hks hm ⊢
    subst hks
    exact rf33 h33 q0 hm
  rw [if_neg h33]
  by_cases h57 : n.op = 35 ∨ n.op = 36 ∨ n.op = 57
  · obtain ⟨k0, k1, hks⟩ : ∃ k0 k1, n.kids = [k0, k1] := by
      rcases h57 with h | h | h
      · obtain ⟨k0, k1, hks, _⟩ := two 3 2 (by unfold sortsC; rw [h]; rfl)
        exact ⟨k0, k1, hks⟩
      · obtain ⟨k0, k1, hks, _⟩ := two 3 2 (by unfold sortsC; rw [h]; rfl)
        exact ⟨k0, k1, hks⟩
      · obtain ⟨k0, k1, hks, _⟩ := two 3 3 (by unfold sortsC; rw [h]; rfl)
        exact ⟨k0, k1, hks⟩
    have m0 : k0 ∈ n.kids := by rw [hks]; simp
    have m1 : k1 ∈ n.kids := by rw [hks]; simp
    have q0 := ih' k0 m0; have q1 := ih' k1 m1
    obtain ⟨gM, qM⟩ := hM k0 m0
    have hd := minus_eq (hg k1 m1) gM hK1
    have hu := join_eq (hg k0 m0) (good_minus (hg k1 m1) gM) hK1
    rw [if_pos h57]
    clear ih hj hp hkl hb hc hf two one ih' hg hgn hM hloop hK m0 m1
    obtain ⟨op, m, r, ks⟩ := n
    simp only [NodeA.op_mk, NodeA.kids_mk] at h57 hks ⊢
    subst hks
    exact rf57 h57 q0 q1 qM hd hu
  rw [if_neg h57]
  by_cases h55 : n.op = 55
  · have hn := hgn (named_b (by omega))
    have hu := join_eq (good_unL (l := n.kids.map freeS) (good_none hV false) fun x hx => by obtain ⟨k, hk, rfl⟩ := List.mem_map.1 hx; exact hg k hk) hn.1 hK1
    rw [if_pos h55]
    clear ih hj hp hkl hb hc hf two one ih' hg hgn hM hK hn
    obtain ⟨op, m, r, ks⟩ := n
    simp only [NodeA.op_mk, NodeA.kids_mk, NodeA.name_mk] at h55 hloop hu ⊢
    subst h55
    exact rf55 hloop hu
  rw [if_neg h55]
  exact rfN hloop h2 h3 hA h12 h33 h57 h55
theorem r10_FreeOf_eq {K : Nat} (hV : Uni V) {n : NodeA} (hf : Fine n) (hc : Cov V n) (hb : n.size ≤ big) (hK : KR V n K) : r10_FreeOf K n = some (freeS n) := by
  unfold r10_FreeOf r10_free
  exact ob _ (free_iter hV n K hf hc hb (by have := hK.2; omega) hK) rfl
theorem r10_MustOf_eq {K : Nat} (hV : Uni V) {n : NodeA} (hf : Fine n) (hc : Cov V n) (hb : n.size ≤ big) (hK : KR V n K) : r10_MustOf K n = some (mustS n) := by
  unfold r10_MustOf
  exact ob _ (r10_must_eq hV hf hc hb hK) rfl
end
/-! ### Anywhere, bound -/
section
variable {K : Nat} {s : NodeA → Option Api_NamesA} {m : ByteArray} {r : RatA} {ks : List NodeA}
theorem ra50 {n : NodeA} {e : Api_NamesA} (h : n.op = 50 ∨ n.op = 52 ∨ n.op = 33 ∨ n.op = 34) (he : iter K (kidsJ K s n.kids) (0, oneS n.name) = some e) : r10_anywhere_body K s n = some e := by
  obtain ⟨op, m, r, ks⟩ := n
  simp only [NodeA.op_mk, NodeA.kids_mk, NodeA.name_mk] at h he
  unfold r10_anywhere_body
  generalize catO = C
  rcases h with rfl | rfl | rfl | rfl <;> exact Eq.trans (b := (iter K (kidsJ K s ks) (0, oneS m)).bind fun e => some e) (by kernel_rfl) (ob _ he rfl)
theorem ra51 {x : ByteArray} {e : Api_NamesA} (hc : catO m tick = some x) (he : iter K (kidsJ K s ks) (0, oneS x) = some e) : r10_anywhere_body K s (.mk 51 m r ks) = some e := by
  unfold r10_anywhere_body
  simp only [NodeA.name_mk]
  generalize catO m ⟨#[39]⟩ = c at hc ⊢
  subst hc
  exact Eq.trans (b := (iter K (kidsJ K s ks) (0, oneS x)).bind fun e => some e) (by kernel_rfl) (ob _ he rfl)
theorem ra55 {x : ByteArray} {u e : Api_NamesA} (hc : catO m tick = some x) (hu : r10_join K (oneS m) (oneS x) = some u) (he : iter K (kidsJ K s ks) (0, u) = some e) : r10_anywhere_body K s (.mk 55 m r ks) = some e := by
  unfold r10_anywhere_body
  simp only [NodeA.name_mk]
  generalize catO m ⟨#[39]⟩ = c at hc ⊢
  subst hc
  have e1 : ((r10_join K (oneS m) (oneS x)).bind fun r23 => some (r23.all, r23.list)) = some (u.all, u.list) := ob _ hu rfl
  exact Eq.trans (b := ((r10_join K (oneS m) (oneS x)).bind fun r23 => some (r23.all, r23.list)).bind fun x => (iter K (kidsJ K s ks) (0, Api_NamesA.mk x.1 x.2)).bind fun e => some e) (by kernel_rfl) (ob _ e1 (ob _ he rfl))
theorem ra56 {n : NodeA} {e : Api_NamesA} (h : n.op = 56 ∨ n.op = 61 ∨ n.op = 62) (he : iter K (kidsJ K s n.kids) (0, allS) = some e) : r10_anywhere_body K s n = some e := by
  obtain ⟨op, m, r, ks⟩ := n
  simp only [NodeA.op_mk, NodeA.kids_mk] at h he
  unfold r10_anywhere_body
  generalize catO = C
  rcases h with rfl | rfl | rfl <;> exact Eq.trans (b := (iter K (kidsJ K s ks) (0, allS)).bind fun e => some e) (by kernel_rfl) (ob _ he rfl)
theorem raN {n : NodeA} {e : Api_NamesA} (h1 : ¬ (n.op = 50 ∨ n.op = 52 ∨ n.op = 33 ∨ n.op = 34)) (h2 : n.op ≠ 51) (h3 : n.op ≠ 55) (h4 : ¬ (n.op = 56 ∨ n.op = 61 ∨ n.op = 62)) (he : iter K (kidsJ K s n.kids) (0, noneS) = some e) : r10_anywhere_body K s n = some e := by
  unfold r10_anywhere_body
  rw [beq_eq_false_iff_ne.2 (show n.op ≠ 50 by omega), beq_eq_false_iff_ne.2 (show n.op ≠ 52 by omega), beq_eq_false_iff_ne.2 (show n.op ≠ 33 by omega), beq_eq_false_iff_ne.2 (show n.op ≠ 34 by omega), beq_eq_false_iff_ne.2 h2, beq_eq_false_iff_ne.2 h3, beq_eq_false_iff_ne.2 (show n.op ≠ 56 by omega), beq_eq_false_iff_ne.2 (show n.op ≠ 61 by omega), beq_eq_false_iff_ne.2 (show n.op ≠ 62 by omega)]
  generalize catO n.name ⟨#[39]⟩ = c
  exact Eq.trans (b := (iter K (kidsJ K s n.kids) (0, noneS)).bind fun e => some e) (by kernel_rfl) (ob _ he rfl)
theorem rbS {n : NodeA} (h : sortS n.op = 2) {e : Api_NamesA} (he : r10_anywhere K n = some e) : r10_bound_body K s n = some e := by
  unfold r10_bound_body
  rw [r08_Sort_eq, h]
  exact ob _ rfl (ob _ he rfl)
theorem rb50 {n : NodeA} {e : Api_NamesA} (h : n.op = 50 ∨ n.op = 52) (he : iter K (kidsJ K s n.kids) (0, oneS n.name) = some e) : r10_bound_body K s n = some e := by
  obtain ⟨op, m, r, ks⟩ := n
  simp only [NodeA.op_mk, NodeA.kids_mk, NodeA.name_mk] at h he
  unfold r10_bound_body
  generalize catO = C
  rcases h with rfl | rfl <;> exact Eq.trans (b := (iter K (kidsJ K s ks) (0, oneS m)).bind fun e => some e) (by kernel_rfl) (ob _ he rfl)
theorem rb51 {x : ByteArray} {e : Api_NamesA} (hc : catO m tick = some x) (he : iter K (kidsJ K s ks) (0, oneS x) = some e) : r10_bound_body K s (.mk 51 m r ks) = some e := by
  unfold r10_bound_body
  simp only [NodeA.name_mk]
  generalize catO m ⟨#[39]⟩ = c at hc ⊢
  subst hc
  exact Eq.trans (b := (iter K (kidsJ K s ks) (0, oneS x)).bind fun e => some e) (by kernel_rfl) (ob _ he rfl)
theorem rb55 {x : ByteArray} {u : Api_NamesA} (hc : catO m tick = some x) (hu : r10_join K (oneS m) (oneS x) = some u) : r10_bound_body K s (.mk 55 m r ks) = some u := by
  unfold r10_bound_body
  simp only [NodeA.name_mk]
  generalize catO m ⟨#[39]⟩ = c at hc ⊢
  subst hc
  exact ob _ rfl (ob _ (Eq.trans (b := (r10_join K (oneS m) (oneS x)).bind fun r23 => outM (some r23)) (by kernel_rfl) (ob _ hu rfl)) rfl)
theorem rb56 {n : NodeA} (h : n.op = 56 ∨ n.op = 61 ∨ n.op = 62) : r10_bound_body K s n = some allS := by
  obtain ⟨op, m, r, ks⟩ := n
  simp only [NodeA.op_mk] at h
  unfold r10_bound_body
  generalize catO = C
  rcases h with rfl | rfl | rfl <;> kernel_rfl
theorem rb53 : r10_bound_body K s (.mk 53 m r ks) = some noneS := by
  unfold r10_bound_body
  generalize catO = C
  kernel_rfl
theorem rb54 {e : Api_NamesA} (he : iter K (fun (again : Int × Api_NamesA → Option Api_NamesA) (x : Int × Api_NamesA) => if decide (x.1 < IntKind.wrap .i64 ((ks.length : Int) - 1)) then (idx ks x.1).bind fun x50 => (s x50).bind fun r52 => (r10_join K x.2 r52).bind fun r54 => again (IntKind.wrap .i64 (x.1 + (1 : Int)), r54) else some x.2) (0, noneS) = some e) : r10_bound_body K s (.mk 54 m r ks) = some e := by
  unfold r10_bound_body
  generalize catO = C
  have he' : ((iter K (fun (again : Int × Api_NamesA → Option Api_NamesA) (x : Int × Api_NamesA) => if decide (x.1 < IntKind.wrap .i64 ((ks.length : Int) - 1)) then (idx ks x.1).bind fun x50 => (s x50).bind fun r52 => (r10_join K x.2 r52).bind fun r54 => again (IntKind.wrap .i64 (x.1 + (1 : Int)), r54) else some x.2) (0, noneS)).bind fun e => outM (some e)) = some (Out.out e : Out (Bool × List ByteArray) Api_NamesA) := ob _ he rfl
  exact ob _ rfl (ob _ (Eq.trans (by kernel_rfl) he') rfl)
theorem rbN {n : NodeA} {e : Api_NamesA} (hs : sortS n.op ≠ 2) (h1 : ¬ (n.op = 50 ∨ n.op = 52)) (h2 : n.op ≠ 51) (h3 : n.op ≠ 55) (h4 : ¬ (n.op = 56 ∨ n.op = 61 ∨ n.op = 62)) (h5 : n.op ≠ 53) (h6 : n.op ≠ 54) (he : iter K (kidsJ K s n.kids) (0, noneS) = some e) : r10_bound_body K s n = some e := by
  unfold r10_bound_body
  rw [r08_Sort_eq, beq_eq_false_iff_ne.2 (show n.op ≠ 50 by omega), beq_eq_false_iff_ne.2 (show n.op ≠ 52 by omega), beq_eq_false_iff_ne.2 h2, beq_eq_false_iff_ne.2 h3, beq_eq_false_iff_ne.2 (show n.op ≠ 56 by omega), beq_eq_false_iff_ne.2 (show n.op ≠ 61 by omega), beq_eq_false_iff_ne.2 (show n.op ≠ 62 by omega), beq_eq_false_iff_ne.2 h5, beq_eq_false_iff_ne.2 h6]
  have hs' : (sortS n.op == 2) = false := beq_eq_false_iff_ne.2 hs
  generalize catO n.name ⟨#[39]⟩ = c
  generalize sortS n.op = so at hs'
  refine Eq.trans (b := (fun b : Bool => if b = true then (r10_anywhere K n).bind fun r4 => some r4 else (iter K (kidsJ K s n.kids) (0, noneS)).bind fun e => some e) (so == 2)) (by kernel_rfl) ?_
  rw [hs']
  exact ob _ he rfl
end
end Go.Proofs.YtngmfimpaembnaaGreatDoor
