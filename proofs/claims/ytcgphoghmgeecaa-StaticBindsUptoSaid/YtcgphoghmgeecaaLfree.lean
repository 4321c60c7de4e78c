/- Part of the proof of a law: contracts of the functions that the law reaches, or plain laws of them, out of the abstract layer (the texts YtcgphoghmgeecaaIso..). No condition. -/
import Derived.Test.YtcgphoghmgeecaaLbinds
import Derived.KernelRfl
namespace Go.Proofs.Ytcgphoghmgeecaa
open Go Go.Iso Go.Proofs
set_option linter.unusedSimpArgs false
set_option linter.unusedVariables false
set_option maxRecDepth 100000

/-! ### Free variables -/
section
variable {K : Nat} {s : NodeA → Option Api_NamesA} {m : ByteArray} {r : RatA} {ks : List NodeA}
theorem fb2 : static_FreeOf_body K s (.mk 2 m r ks) = some (oneS m) := by
  unfold static_FreeOf_body
  simp only [NodeA.name_mk]
  generalize catO m ⟨#[39]⟩ = c
  kernel_rfl
theorem fb3 {x : ByteArray} (hc : catO m tick = some x) : static_FreeOf_body K s (.mk 3 m r ks) = some (oneS x) := by
  unfold static_FreeOf_body
  simp only [NodeA.name_mk]
  generalize catO m ⟨#[39]⟩ = c at hc ⊢
  subst hc
  kernel_rfl
theorem fbA {n : NodeA} (h : n.op = 11 ∨ n.op = 38 ∨ n.op = 61 ∨ n.op = 62 ∨ n.op = 56) : static_FreeOf_body K s n = some allS := by
  obtain ⟨op, m, r, ks⟩ := n
  simp only [NodeA.op_mk] at h
  unfold static_FreeOf_body
  simp only [NodeA.name_mk]
  generalize catO m ⟨#[39]⟩ = c
  rcases h with rfl | rfl | rfl | rfl | rfl <;> kernel_rfl
theorem fb52 : static_FreeOf_body K s (.mk 52 m r ks) = some noneS := by
  unfold static_FreeOf_body
  simp only [NodeA.name_mk]
  generalize catO m ⟨#[39]⟩ = c
  kernel_rfl
theorem fb12 {op : Int} {k0 : NodeA} {a F : Api_NamesA} (h : op = 12 ∨ op = 39) (h0 : s k0 = some a) (hp : static_primes K a = some F) : static_FreeOf_body K s (.mk op m r [k0]) = some F := by
  unfold static_FreeOf_body
  simp only [NodeA.name_mk]
  generalize catO m ⟨#[39]⟩ = c
  generalize static_primes K = P at hp ⊢
  rcases h with rfl | rfl
  · exact ob _ (Eq.trans (b := (s k0).bind fun x => (P x).bind fun y => outM (some y)) (by kernel_rfl) (ob _ h0 (ob _ hp rfl))) rfl
  · exact ob _ (Eq.trans (b := (s k0).bind fun x => (P x).bind fun y => outM (some y)) (by kernel_rfl) (ob _ h0 (ob _ hp rfl))) rfl
theorem fb33 {op : Int} {k0 : NodeA} {a F : Api_NamesA} (h : op = 33 ∨ op = 34) (h0 : s k0 = some a) (hp : static_minus K a (oneS m) = some F) : static_FreeOf_body K s (.mk op m r [k0]) = some F := by
  unfold static_FreeOf_body
  simp only [NodeA.name_mk]
  generalize catO m ⟨#[39]⟩ = c
  generalize static_minus K = P at hp ⊢
  rcases h with rfl | rfl
  · exact ob _ (Eq.trans (b := (s k0).bind fun x => (P x (oneS m)).bind fun y => outM (some y)) (by kernel_rfl) (ob _ h0 (ob _ hp rfl))) rfl
  · exact ob _ (Eq.trans (b := (s k0).bind fun x => (P x (oneS m)).bind fun y => outM (some y)) (by kernel_rfl) (ob _ h0 (ob _ hp rfl))) rfl
theorem fb57 {op : Int} {k0 k1 : NodeA} {a b M d u : Api_NamesA} (h : op = 35 ∨ op = 36 ∨ op = 57) (h0 : s k0 = some a) (h1 : s k1 = some b) (hM : static_MustOf K k0 = some M) (hd : static_minus K b M = some d) (hu : static_union K a d = some u) : static_FreeOf_body K s (.mk op m r [k0, k1]) = some u := by
  unfold static_FreeOf_body
  simp only [NodeA.name_mk]
  generalize catO m ⟨#[39]⟩ = c
  generalize static_minus K = P at hd ⊢
  generalize static_union K = U at hu ⊢
  generalize static_MustOf K = T at hM ⊢
  rcases h with rfl | rfl | rfl
  · exact ob _ (Eq.trans (b := (s k0).bind fun x => (s k1).bind fun y => (T k0).bind fun z => (P y z).bind fun w => (U x w).bind fun v => outM (some v)) (by kernel_rfl) (ob _ h0 (ob _ h1 (ob _ hM (ob _ hd (ob _ hu rfl)))))) rfl
  · exact ob _ (Eq.trans (b := (s k0).bind fun x => (s k1).bind fun y => (T k0).bind fun z => (P y z).bind fun w => (U x w).bind fun v => outM (some v)) (by kernel_rfl) (ob _ h0 (ob _ h1 (ob _ hM (ob _ hd (ob _ hu rfl)))))) rfl
  · exact ob _ (Eq.trans (b := (s k0).bind fun x => (s k1).bind fun y => (T k0).bind fun z => (P y z).bind fun w => (U x w).bind fun v => outM (some v)) (by kernel_rfl) (ob _ h0 (ob _ h1 (ob _ hM (ob _ hd (ob _ hu rfl)))))) rfl
theorem fb55 : static_FreeOf_body K s (.mk 55 m r ks) = (iter K (kidsR K s ks) (0, oneS m)).bind fun e => some e := by
  unfold static_FreeOf_body
  simp only [NodeA.name_mk]
  generalize catO m ⟨#[39]⟩ = c
  kernel_rfl
theorem fbN {n : NodeA} (h2 : n.op ≠ 2) (h3 : n.op ≠ 3) (h11 : n.op ≠ 11) (h38 : n.op ≠ 38) (h61 : n.op ≠ 61) (h62 : n.op ≠ 62) (h56 : n.op ≠ 56) (h12 : n.op ≠ 12) (h39 : n.op ≠ 39) (h33 : n.op ≠ 33) (h34 : n.op ≠ 34) (h35 : n.op ≠ 35) (h36 : n.op ≠ 36) (h57 : n.op ≠ 57) (h52 : n.op ≠ 52) (h55 : n.op ≠ 55) : static_FreeOf_body K s n = (iter K (kidsR K s n.kids) (0, noneS)).bind fun e => some e := by
  unfold static_FreeOf_body
  rw [beq_eq_false_iff_ne.2 h2, beq_eq_false_iff_ne.2 h3, beq_eq_false_iff_ne.2 h11, beq_eq_false_iff_ne.2 h38, beq_eq_false_iff_ne.2 h61, beq_eq_false_iff_ne.2 h62, beq_eq_false_iff_ne.2 h56, beq_eq_false_iff_ne.2 h12, beq_eq_false_iff_ne.2 h39, beq_eq_false_iff_ne.2 h33, beq_eq_false_iff_ne.2 h34, beq_eq_false_iff_ne.2 h35, beq_eq_false_iff_ne.2 h36, beq_eq_false_iff_ne.2 h57, beq_eq_false_iff_ne.2 h52, beq_eq_false_iff_ne.2 h55]
  generalize catO n.name ⟨#[39]⟩ = c
  kernel_rfl
end
section
variable {V : List ByteArray}
def IsF (V : List ByteArray) (t : Nat) (n : NodeA) (F : Api_NamesA) : Prop := Good V F ∧ ∀ K j, KS V n K → t < j → iter j (fun self q => static_FreeOf_body K self q) n = some F
theorem pick {P : NodeA → Api_NamesA → Prop} {l : List NodeA} (h : ∀ k ∈ l, ∃ F, P k F) : ∃ f : NodeA → Api_NamesA, ∀ k ∈ l, P k (f k) :=
  ⟨fun k => Classical.epsilon (h := ⟨noneS⟩) (P k), fun k hk => Classical.epsilon_spec (h k hk)⟩
theorem free_ex (hV : Uni V) : ∀ n : NodeA, Fine n → Cov V n → n.size ≤ big → ∃ F, IsF V n.size n F := by
  refine NodeA.ind fun n ih => ?_
  intro hf hc hb
  have hk : ∀ k ∈ n.kids, ∃ F, IsF V k.size k F := fun k hk => ih k hk (fine_kid hf hk) (cov_kid hc hk) (by have := NodeA.size_lt hk; omega)
  have hM : ∀ k ∈ n.kids, ∃ M, IsM V k.size k M := fun k hk => (must_ex hV k (fine_kid hf hk) (cov_kid hc hk) (by have := NodeA.size_lt hk; omega)).imp fun M h => h.1
  have hp := n.size_pos
  have hkl := n.kids_lt
  have hgo : namedS n.op = true → Good V (oneS n.name) ∧ Good V (oneS (n.name ++ tick)) ∧ n.name.size < 100 := good_name hV hf hc
  have ex : ∀ F, Good V F → (∀ K j, KS V n K → n.size ≤ j → static_FreeOf_body K (iter j (fun self q => static_FreeOf_body K self q)) n = some F) → ∃ F, IsF V n.size n F := fun F h1 h2 => ⟨F, h1, fun K j hK hj => by
    obtain ⟨j, rfl⟩ : ∃ i, j = i + 1 := ⟨j - 1, by omega⟩
    rw [iter_succ]
    exact h2 K j hK (by omega)⟩
  have loop : ∀ (f : NodeA → Api_NamesA), (∀ k ∈ n.kids, IsF V k.size k (f k)) → ∀ K j s0, KS V n K → n.size ≤ j → Good V s0 → iter K (kidsR K (iter j (fun self q => static_FreeOf_body K self q)) n.kids) (0, s0) = some (unL s0 (n.kids.map f)) := fun f hf K j s0 hK hj h0 => by
    refine kids_eq (V := V) n.kids f (fun x hx => (hf x hx).2 K j (ks_kid hK hx) (by have := NodeA.size_lt hx; omega)) (fun x hx => (hf x hx).1) h0 hK.1 (by have := hK.2; omega) (by omega)
  by_cases h2 : n.op = 2
  · refine ex (oneS n.name) (hgo (named_b (by omega))).1 fun K j hK hj => ?_
    clear ih hk hM hgo ex loop
    obtain ⟨op, m, r, ks⟩ := n
    simp only [NodeA.op_mk] at h2
    subst h2
    exact fb2
  by_cases h3 : n.op = 3
  · have hg := hgo (named_b (by omega))
    clear hgo
    refine ex (oneS (n.name ++ tick)) hg.2.1 fun K j hK hj => ?_
    clear ih hk hM ex loop
    obtain ⟨op, m, r, ks⟩ := n
    simp only [NodeA.op_mk, NodeA.name_mk] at h3 hg ⊢
    subst h3
    exact fb3 (catO_tick hg.2.2)
  by_cases hA : n.op = 11 ∨ n.op = 38 ∨ n.op = 61 ∨ n.op = 62 ∨ n.op = 56
  · exact ex allS (good_none hV _) fun K j hK hj => fbA hA
  by_cases h12 : n.op = 12 ∨ n.op = 39
  · obtain ⟨k0, hks⟩ : ∃ k0, n.kids = [k0] := by
      rcases h12 with h | h
      · obtain ⟨k0, hks, _⟩ := sorts1 (a := 1) hf (by unfold sortsC; rw [h]; rfl)
        exact ⟨k0, hks⟩
      · obtain ⟨k0, hks, _⟩ := sorts1 (a := 2) hf (by unfold sortsC; rw [h]; rfl)
        exact ⟨k0, hks⟩
    have m0 : k0 ∈ n.kids := by rw [hks]; simp
    obtain ⟨F0, i0⟩ := hk k0 m0
    obtain ⟨F, hF, hFK⟩ := static_primes_ex i0.1
    refine ex F hF fun K j hK hj => ?_
    have q0 := i0.2 K j (ks_kid hK m0) (by have := NodeA.size_lt m0; omega)
    have q1 := hFK K hK.1
    clear ih hk hM hgo ex loop
    obtain ⟨op, m, r, ks⟩ := n
    simp only [NodeA.op_mk, NodeA.kids_mk] at h12 hks
    subst hks
    exact fb12 h12 q0 q1
  by_cases h33 : n.op = 33 ∨ n.op = 34
  · obtain ⟨k0, hks⟩ : ∃ k0, n.kids = [k0] := by
      rcases h33 with h | h
      · obtain ⟨k0, hks, _⟩ := sorts1 (a := 2) hf (by unfold sortsC; rw [h]; rfl)
        exact ⟨k0, hks⟩
      · obtain ⟨k0, hks, _⟩ := sorts1 (a := 2) hf (by unfold sortsC; rw [h]; rfl)
        exact ⟨k0, hks⟩
    have m0 : k0 ∈ n.kids := by rw [hks]; simp
    obtain ⟨F0, i0⟩ := hk k0 m0
    have hg := hgo (named_b (by omega))
    clear hgo
    refine ex (minusS F0 (oneS n.name)) (good_minus i0.1 hg.1) fun K j hK hj => ?_
    have q0 := i0.2 K j (ks_kid hK m0) (by have := NodeA.size_lt m0; omega)
    have q1 := static_minus_eq i0.1 hg.1 hK.1
    clear ih hk hM ex loop
    obtain ⟨op, m, r, ks⟩ := n
    simp only [NodeA.op_mk, NodeA.kids_mk, NodeA.name_mk] at h33 hks q1 ⊢
    subst hks
    exact fb33 h33 q0 q1
  by_cases h57 : n.op = 35 ∨ n.op = 36 ∨ n.op = 57
  · obtain ⟨k0, k1, hks⟩ : ∃ k0 k1, n.kids = [k0, k1] := by
      rcases h57 with h | h | h
      · obtain ⟨k0, k1, hks, _⟩ := sorts2 (a := 3) (b := 2) hf (by unfold sortsC; rw [h]; rfl)
        exact ⟨k0, k1, hks⟩
      · obtain ⟨k0, k1, hks, _⟩ := sorts2 (a := 3) (b := 2) hf (by unfold sortsC; rw [h]; rfl)
        exact ⟨k0, k1, hks⟩
      · obtain ⟨k0, k1, hks, _⟩ := sorts2 (a := 3) (b := 3) hf (by unfold sortsC; rw [h]; rfl)
        exact ⟨k0, k1, hks⟩
    have m0 : k0 ∈ n.kids := by rw [hks]; simp
    have m1 : k1 ∈ n.kids := by rw [hks]; simp
    obtain ⟨F0, i0⟩ := hk k0 m0
    obtain ⟨F1, i1⟩ := hk k1 m1
    obtain ⟨M, iM⟩ := hM k0 m0
    refine ex (unionS F0 (minusS F1 M)) (good_union i0.1 (good_minus i1.1 iM.1)) fun K j hK hj => ?_
    have q0 := i0.2 K j (ks_kid hK m0) (by have := NodeA.size_lt m0; omega)
    have q1 := i1.2 K j (ks_kid hK m1) (by have := NodeA.size_lt m1; omega)
    have qM : static_MustOf K k0 = some M := iM.2 K K (ks_kid hK m0) (by have := (ks_kid hK m0).2; omega)
    have qd := static_minus_eq i1.1 iM.1 hK.1
    have qu := static_union_eq i0.1 (good_minus i1.1 iM.1) hK.1
    clear ih hk hM hgo ex loop
    obtain ⟨op, m, r, ks⟩ := n
    simp only [NodeA.op_mk, NodeA.kids_mk] at h57 hks
    subst hks
    exact fb57 h57 q0 q1 qM qd qu
  by_cases h52 : n.op = 52
  · refine ex noneS (good_none hV _) fun K j hK hj => ?_
    clear ih hk hM hgo ex loop
    obtain ⟨op, m, r, ks⟩ := n
    simp only [NodeA.op_mk] at h52
    subst h52
    exact fb52
  obtain ⟨f, hff⟩ := pick hk
  by_cases h55 : n.op = 55
  · have hg := hgo (named_b (by omega))
    clear hgo
    refine ex (unL (oneS n.name) (n.kids.map f)) (good_unL hg.1 fun x hx => by obtain ⟨k, hk, rfl⟩ := List.mem_map.1 hx; exact (hff k hk).1) fun K j hK hj => ?_
    have hl := loop f hff K j _ hK hj hg.1
    clear ih hk hM ex loop hff
    obtain ⟨op, m, r, ks⟩ := n
    simp only [NodeA.op_mk, NodeA.kids_mk, NodeA.name_mk] at h55 hl ⊢
    subst h55
    rw [fb55, hl]; rfl
  refine ex (unL noneS (n.kids.map f)) (good_unL (good_none hV _) fun x hx => by obtain ⟨k, hk, rfl⟩ := List.mem_map.1 hx; exact (hff k hk).1) fun K j hK hj => ?_
  rw [fbN h2 h3 (fun h => hA (.inl h)) (fun h => hA (.inr (.inl h))) (fun h => hA (.inr (.inr (.inl h)))) (fun h => hA (.inr (.inr (.inr (.inl h))))) (fun h => hA (.inr (.inr (.inr (.inr h))))) (fun h => h12 (.inl h)) (fun h => h12 (.inr h)) (fun h => h33 (.inl h)) (fun h => h33 (.inr h)) (fun h => h57 (.inl h)) (fun h => h57 (.inr (.inl h))) (fun h => h57 (.inr (.inr h))) h52 h55, loop f hff K j _ hK hj (good_none hV _)]
  rfl
end
end Go.Proofs.Ytcgphoghmgeecaa
