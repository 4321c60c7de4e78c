/- The abstract layer, part P: contracts of functions that write into blocks that they are handed. -/
import Derived.Test.YtngmfimpaembnaaGreatDoorIsoO
namespace Go.Iso
open Go Go.RowKit
set_option linter.unusedSimpArgs false
set_option linter.unusedVariables false
mutual
/-- A value whose blocks have other numbers. -/
def V.ren (r : Nat → Nat) : V → V
  | .any => .any
  | .d x => .d x
  | .agg cs => .agg (V.renL r cs)
  | .tup cs => .tup (V.renL r cs)
  | .ptr o k i j => .ptr (r o) k i j
  | .iptr cs => .iptr cs
  | .msl o k off len => .msl (r o) k off len
  | .fn f cs => .fn f (V.renL r cs)
def V.renL (r : Nat → Nat) : List V → List V
  | [] => []
  | v :: l => V.ren r v :: V.renL r l
end
theorem V.renL_map {r : Nat → Nat} : ∀ l : List V, V.renL r l = l.map (V.ren r)
  | [] => by simp [V.renL]
  | v :: l => by simp [V.renL, V.renL_map l]
def Own.ren (r : Nat → Nat) (x : Own) : Own := ⟨x.k, x.rows.map (·.map (V.ren r))⟩
def hpA (h : List Own) : Heap := fun o => h[o]?
section
variable {P : Program} {σ σ' : Heap} {ρ ρ' : Nat → Option Nat} {I I' : Nat → Prop} {w w' : World}
theorem RepV.unren {r : Nat → Nat} : ∀ (v : V) {c : Value}, RepV ρ I w (v.ren r) c → RepV (fun o => ρ (r o)) I w v c
  | .any, c, _ => .any c
  | .d x, c, h => by rw [V.ren] at h; exact .d (h.toD rfl)
  | .agg cs, c, h => by
    rw [V.ren, V.renL_map] at h
    obtain ⟨vs, rfl, h1, h2⟩ := h.toAgg rfl
    refine .agg (by simpa using h1) fun i hi => ?_
    have := h2 i (by simpa using hi)
    rw [List.getElem_map] at this
    exact RepV.unren cs[i] this
  | .tup cs, c, h => by
    rw [V.ren, V.renL_map] at h
    obtain ⟨vs, rfl, h1, h2⟩ := h.toTup rfl
    refine .tup (by simpa using h1) fun i hi => ?_
    have := h2 i (by simpa using hi)
    rw [List.getElem_map] at this
    exact RepV.unren cs[i] this
  | .ptr o k i j, c, h => by rw [V.ren] at h; obtain ⟨b, h1, rfl⟩ := h.toPtr rfl; exact .ptr h1
  | .iptr cs, c, h => by rw [V.ren] at h; obtain ⟨b, off, h1, rfl⟩ := h.toIptr rfl; exact .iptr h1
  | .msl o k off len, c, h => by rw [V.ren] at h; obtain ⟨b, cap, cs, e, h1, h2, h3, h4, h5, rfl⟩ := h.toMsl rfl; exact .msl h1 h2 h3 h4 h5
  | .fn f cs, c, h => by
    rw [V.ren, V.renL_map] at h
    obtain ⟨vs, rfl, h1, h2⟩ := h.toFn rfl
    refine .fn (by simpa using h1) fun i hi => ?_
    have := h2 i (by simpa using hi)
    rw [List.getElem_map] at this
    exact RepV.unren cs[i] this
termination_by v => SizeOf.sizeOf v
decreasing_by all_goals (have := List.sizeOf_lt_of_mem (List.getElem_mem hi); simp; omega)
theorem RepV.ren {r : Nat → Nat} : ∀ (v : V) {c : Value}, RepV (fun o => ρ (r o)) I w v c → RepV ρ I w (v.ren r) c
  | .any, c, _ => by rw [V.ren]; exact .any c
  | .d x, c, h => by rw [V.ren]; exact .d (h.toD rfl)
  | .agg cs, c, h => by
    rw [V.ren, V.renL_map]
    obtain ⟨vs, rfl, h1, h2⟩ := h.toAgg rfl
    refine .agg (by simpa using h1) fun i hi => ?_
    rw [List.getElem_map]
    exact RepV.ren _ (h2 i (by simpa using hi))
  | .tup cs, c, h => by
    rw [V.ren, V.renL_map]
    obtain ⟨vs, rfl, h1, h2⟩ := h.toTup rfl
    refine .tup (by simpa using h1) fun i hi => ?_
    rw [List.getElem_map]
    exact RepV.ren _ (h2 i (by simpa using hi))
  | .ptr o k i j, c, h => by rw [V.ren]; obtain ⟨b, h1, rfl⟩ := h.toPtr rfl; exact .ptr h1
  | .iptr cs, c, h => by rw [V.ren]; obtain ⟨b, off, h1, rfl⟩ := h.toIptr rfl; exact .iptr h1
  | .msl o k off len, c, h => by rw [V.ren]; obtain ⟨b, cap, cs, e, h1, h2, h3, h4, h5, rfl⟩ := h.toMsl rfl; exact .msl h1 h2 h3 h4 h5
  | .fn f cs, c, h => by
    rw [V.ren, V.renL_map]
    obtain ⟨vs, rfl, h1, h2⟩ := h.toFn rfl
    refine .fn (by simpa using h1) fun i hi => ?_
    rw [List.getElem_map]
    exact RepV.ren _ (h2 i (by simpa using hi))
termination_by v => SizeOf.sizeOf v
decreasing_by all_goals (have := List.sizeOf_lt_of_mem (List.getElem_mem (by simpa using hi)); simp; omega)
structure Cl [Glb] (P : Program) (f : FuncId) (args : List V) (h : List Own) (v : V) (h' : List Own) : Prop where
  callable : Callable P f
  len : h'.length = h.length
  refsA : V.refsL (· < h.length) args
  refsV : v.refs (· < h.length)
  refsH : ∀ x ∈ h, okRows h.length x.rows
  run : ∀ ρ I w cargs, HeapOk (hpA h) ρ I w → (∀ o, h.length ≤ o → ρ o = none) → RepAll ρ I w args cargs →
    Calls P f cargs w fun e w' => ∃ c I', e = .returned c ∧ Kept (hpA h) ρ I w (hpA h') ρ I' w' ∧ HeapOk (hpA h') ρ I' w' ∧ RepV ρ I' w' v c
theorem CallS.loc [Glb] {f : FuncId} {args : List V} {h h' : List Own} {v : V} (hc : Cl P f args h v h') {r : Nat → Nat} (hin : ∀ j (hj : j < h.length), σ (r j) = some (h[j].ren r)) (hinj : ∀ i j, i < h.length → j < h.length → r i = r j → i = j)
    (hout : ∀ o x, σ' o = some x → (∃ j, ∃ (hj : j < h'.length), o = r j ∧ x = h'[j].ren r) ∨ (σ o = some x ∧ ∀ j, j < h.length → o ≠ r j)) {N id : Nat} : CallS P f (args.map (V.ren r)) σ N id (v.ren r) σ' := by
  refine ⟨hc.callable, fun ρ I w cargs hh _ _ hA => ?_⟩
  let ρl : Nat → Option Nat := fun o => if o < h.length then ρ (r o) else none
  have hρl : ∀ o b, o < h.length → ρ (r o) = some b → ρl o = some b := fun o b h1 h2 => by simp only [ρl, h1, if_true]; exact h2
  have hρr : ∀ o b, ρl o = some b → o < h.length ∧ ρ (r o) = some b := fun o b h1 => by
    simp only [ρl] at h1; split at h1
    · next h2 => exact ⟨h2, h1⟩
    · cases h1
  have ownL : ∀ b, Owns (hpA h) ρl b → Owns σ ρ b := by
    rintro b ⟨o, x, h1, h2⟩
    obtain ⟨h3, h4⟩ := hρr o b h2
    exact ⟨r o, _, hin o h3, h4⟩
  have hhl : HeapOk (hpA h) ρl I w := by
    refine ⟨fun o x ho => ?_, fun o o' x x' b h1 h2 h3 h4 => ?_, hh.base⟩
    · obtain ⟨hj, rfl⟩ := List.getElem?_eq_some_iff.1 ho
      obtain ⟨b, c, e, k1, k2, k3, k4, k5⟩ := hh.own (r o) _ (hin o hj)
      refine ⟨b, c, e, hρl o b hj k1, k2, by simpa [Own.ren] using k3, k4, fun i hi => ?_⟩
      obtain ⟨l1, l2⟩ := k5 i (by simpa [Own.ren] using hi)
      refine ⟨by simpa [Own.ren] using l1, fun j hj' => ?_⟩
      have := l2 j (by simpa [Own.ren] using hj')
      simp only [Own.ren, List.getElem_map] at this
      exact (RepV.unren _ this).reid (hc.refsH _ (List.getElem_mem hj) _ (List.getElem_mem hi) _ (List.getElem_mem hj')) fun o b h1 h2 => hρl o b h1 h2
    · obtain ⟨l1, l2⟩ := hρr _ _ h3
      obtain ⟨l3, l4⟩ := hρr _ _ h4
      exact hinj o o' l1 l3 (hh.inj _ _ _ _ b (hin o l1) (hin o' l3) l2 l4)
  have hAl : RepAll ρl I w args cargs := ⟨by simpa using hA.size, fun i hi => by
    have := hA.rep i (by simpa using hi)
    rw [List.getElem_map] at this
    exact (RepV.unren _ this).reid (V.refsL_get hc.refsA i hi) fun o b h1 h2 => hρl o b h1 h2⟩
  refine Calls.mono (hc.run ρl I w cargs hhl (fun o ho => if_neg (by omega)) hAl) ?_
  rintro e w' ⟨c, I', rfl, hk, hh', hv⟩
  have src : ∀ o x, σ' o = some x → ∃ y, σ o = some y := fun o x ho => by
    rcases hout o x ho with ⟨j, hj, rfl, _⟩ | ⟨h1, _⟩
    · exact ⟨_, hin j (by rw [← hc.len]; exact hj)⟩
    · exact ⟨x, h1⟩
  have keptB : ∀ b, b < w.heap.size → ¬ Owns (hpA h) ρl b → w'.heap[b]? = w.heap[b]? := hk.kept
  have own' : ∀ b, Owns σ' ρ b → Owns σ ρ b := fun b ⟨o, x, h1, h2⟩ => let ⟨y, h3⟩ := src o x h1; ⟨o, y, h3, h2⟩
  have hK : Kept σ ρ I w σ' ρ I' w' := ⟨hk.os, hk.tape, hk.output, hk.size, fun b hb hn => keptB b hb fun ho => hn (ownL b ho), hk.sz, fun b hb => .inl (own' b hb), hk.imm, fun b hb => (hk.immNew b hb).imp (fun h => h) (Or.imp (ownL b) (fun h => h))⟩
  have hren : ∀ {v : V} {c : Value}, RepV ρl I' w' v c → RepV ρ I' w' (v.ren r) c := fun {v c} hv =>
    RepV.ren v (hv.mono (ρ' := fun o => ρ (r o)) (fun o b h1 => (hρr o b h1).2) (fun _ h => h) (fun _ _ => rfl) (fun _ c _ h => ⟨c, h, rfl⟩))
  refine ⟨c, ρ, I', rfl, ⟨hK, fun _ _ h => h⟩, ⟨fun o x ho => ?_, fun o o' x x' b h1 h2 h3 h4 => ?_, hh'.base⟩, fun _ _ => rfl, hren hv⟩
  · rcases hout o x ho with ⟨j, hj, rfl, rfl⟩ | ⟨h1, h2⟩
    · obtain ⟨b, c, e, k1, k2, k3, k4, k5⟩ := hh'.own j h'[j] (by simp [hpA, hj])
      refine ⟨b, c, e, (hρr _ _ k1).2, k2, by simpa [Own.ren] using k3, k4, fun i hi => ?_⟩
      have hi' : i < h'[j].rows.length := by simpa [Own.ren] using hi
      obtain ⟨l1, l2⟩ := k5 i hi'
      refine ⟨by simpa [Own.ren] using l1, fun m hm => ?_⟩
      simp only [Own.ren, List.getElem_map]
      exact hren (l2 m (by simpa [Own.ren] using hm))
    · obtain ⟨b, c, e, k1, k2, k3, k4, k5⟩ := hh.own o x h1
      have hb : b < w.heap.size := Blk.lt k2
      have hno : ¬ Owns (hpA h) ρl b := by
        rintro ⟨j, y, m1, m2⟩
        obtain ⟨m3, m4⟩ := hρr _ _ m2
        exact h2 j m3 (hh.inj _ _ _ _ b h1 (hin j m3) k1 m4)
      refine ⟨b, c, e, k1, k2.of_eq (keptB b hb hno), k3, fun hb' => ?_, fun i hi => ⟨(k5 i hi).1, fun m hm => ?_⟩⟩
      · rcases hk.immNew b hb' with m | m | m
        · exact k4 m
        · exact hno m
        · omega
      · exact ((k5 i hi).2 m hm).mono (fun _ _ h => h) hk.imm (fun b hb => keptB b (hh.lt b hb) (hhl.notOwned hb)) hk.sz
  · obtain ⟨y, l1⟩ := src o x h1
    obtain ⟨y', l2⟩ := src o' x' h2
    exact hh.inj _ _ _ _ b l1 l2 h3 h4
def priv (m : Nat) (σ : Heap) : Heap := fun o => if o < m then none else σ o
def SealRows (σ : Heap) : List (List V) → List (List V) → Prop
  | [], [] => True
  | r :: l, r' :: l' => SealAll σ r r' ∧ SealRows σ l l'
  | _, _ => False
theorem SealRows.refl {σ : Heap} : ∀ l : List (List V), SealRows σ l l
  | [] => trivial
  | r :: l => ⟨SealAll.refl r, SealRows.refl l⟩
theorem SealRows.get {σ : Heap} : ∀ {l l' : List (List V)}, SealRows σ l l' → l.length = l'.length ∧ ∀ i (hi : i < l.length) (hj : i < l'.length), SealAll σ l[i] l'[i]
  | [], [], _ => ⟨rfl, fun i hi => absurd hi (Nat.not_lt_zero i)⟩
  | r :: l, r' :: l', h => by
    unfold SealRows at h
    obtain ⟨h1, h2⟩ := SealRows.get h.2
    refine ⟨by simp [h1], fun i hi hj => ?_⟩
    cases i with
    | zero => exact h.1
    | succ i => exact h2 i (by simpa using hi) (by simpa using hj)
  | [], _ :: _, h => h.elim
  | _ :: _, [], h => h.elim
def endH (m : Nat) (σ : Heap) : Nat → List Own → Prop
  | _, [] => True
  | i, x :: r => optK (σ i) (Later (Hold fun y => y.k = x.k ∧ SealRows (priv m σ) y.rows x.rows)) ∧ endH m σ (i + 1) r
theorem endH_get {m : Nat} : ∀ {h : List Own} {i : Nat}, endH m σ i h → ∀ j (hj : j < h.length), ∃ y, σ (i + j) = some y ∧ y.k = h[j].k ∧ SealRows (priv m σ) y.rows h[j].rows
  | [], _, _, j, hj => absurd hj (Nat.not_lt_zero j)
  | x :: r, i, h, 0, _ => by unfold endH at h; obtain ⟨y, h1, h2⟩ := optK_some h.1; rw [Later_apply] at h2; exact ⟨y, h1, h2⟩
  | x :: r, i, h, j + 1, hj => by
    unfold endH at h
    obtain ⟨y, h1, h2⟩ := endH_get h.2 j (by simpa using hj)
    exact ⟨y, by rw [show i + (j + 1) = i + 1 + j by omega]; exact h1, h2⟩
theorem Cl.of [Glb] {f : FuncId} {fn : Func} {c : Code} {args : List V} {h h' : List Own} {v : V} {N : Nat} {rs : Array ResultVar} (hm : P.follows .mixedOrders = true) (hf : P.funcs[f]? = some fn) (hb : fn.body = some c) (hc : Callable P f) (hN : fn.ntmps = N) (hr : fn.results = rs) (hn : args.length ≤ N)
    (hok : okB N c = true) (hl : h'.length = h.length) (hrA : V.refsL (· < h.length) args) (hrV : v.refs (· < h.length)) (hrH : ∀ x ∈ h, okRows h.length x.rows) (hrH' : ∀ x ∈ h', okRows h.length x.rows)
    (hvc : fitA args → vc P N h.length c (retQ P rs.toList (Later (Hold fun st u => SealV (priv h.length st.σ) u v ∧ endH h.length st.σ 0 h'))) ⟨argF args, hpA h, h.length⟩) : Cl P f args h v h' := by
  subst hN hr
  refine ⟨hc, hl, hrA, hrV, hrH, fun ρ I w cargs hh hfr hA => calls_of_wp hf hb ?_⟩
  have hcon : Conc fn.ntmps h.length ⟨argF args, hpA h, h.length⟩ ρ I ⟨cargs ++ Array.replicate (fn.ntmps - cargs.size) undef, []⟩ w :=
    ⟨hh, hfr, fun t => entry_frame hA t, rfl, by simp [hA.size]; omega, Nat.le_refl _⟩
  refine wp_mono (vc_sound hm c _ _ hok (hvc (fitA_of args _ hA.rep)) _ I _ w hcon) ?_
  rintro e a' w' ⟨st', ρ', I', h1, h2, h3⟩
  have fin : resK P st' fn.results.toList (fun u => SealV (priv h.length st'.σ) u v ∧ endH h.length st'.σ 0 h') → a'.defers = [] ∧ ∃ c, (results fn a'.tmps).run P w' = .ok c w' ∧ ∃ c' I'', Ending.returned c = .returned c' ∧ Kept (hpA h) ρ I w (hpA h') ρ I'' w' ∧ HeapOk (hpA h') ρ I'' w' ∧ RepV ρ I'' w' v c' := by
    intro hk
    obtain ⟨u, c, ⟨k1, kE⟩, k2, k3⟩ := resK_sound h2 hk
    have hpr : HeapOk (priv h.length st'.σ) ρ' I' w' := h2.heap.forget fun o x ho => by
      unfold priv at ho; split at ho
      · cases ho
      · exact ho
    have pge : ∀ o x, priv h.length st'.σ o = some x → h.length ≤ o ∧ st'.σ o = some x := fun o x ho => by
      unfold priv at ho; split at ho
      · cases ho
      · exact ⟨by omega, ho⟩
    have low : ∀ o b, o < h.length → ρ' o = some b → ρ o = some b := fun o b ho hb => by rw [← h3.low o ho]; exact hb
    have stay : ∀ j (hj : j < h'.length), ∃ y, st'.σ j = some y ∧ y.k = h'[j].k ∧ SealRows (priv h.length st'.σ) y.rows h'[j].rows := fun j hj => by
      have := endH_get kE j hj; simpa using this
    refine ⟨h2.defers, c, k3, c, fun b => I' b ∨ Owns (priv h.length st'.σ) ρ' b, rfl, ⟨h3.os, h3.tape, h3.output, h3.size, h3.kept, h3.sz, fun b hb => ?_, fun b hb => .inl (h3.imm b hb), fun b hb => ?_⟩, ⟨fun o x ho => ?_, fun o o' x x' b l1 l2 l3 l4 => ?_, h2.heap.base.up (fun _ h => .inl h) fun b hb => ?_⟩, ?_⟩
    · obtain ⟨o, x, l1, l2⟩ := hb
      obtain ⟨hj, rfl⟩ := List.getElem?_eq_some_iff.1 l1
      obtain ⟨y, m1, _⟩ := stay o hj
      exact h3.owned b ⟨o, y, m1, by rw [h3.low o (by omega)]; exact l2⟩
    · rcases hb with hb | ⟨o, x, l1, l2⟩
      · exact h3.immNew b hb
      · exact (h3.owned b ⟨o, x, (pge o x l1).2, l2⟩).elim (fun h => .inr (.inl h)) (fun h => .inr (.inr h))
    · obtain ⟨hj, rfl⟩ := List.getElem?_eq_some_iff.1 ho
      obtain ⟨y, m1, m2, m3⟩ := stay o hj
      obtain ⟨b, c, e, n1, n2, n3, n4, n5⟩ := h2.heap.own o y m1
      have hlen := m3.get.1
      refine ⟨b, c, e, low o b (by omega) n1, n2, by rw [← hlen, ← m2]; exact n3, ?_, fun i hi => ?_⟩
      · rintro (hb | ⟨o', x', l1, l2⟩)
        · exact n4 hb
        · obtain ⟨p1, p2⟩ := pge o' x' l1
          have := h2.heap.inj o o' _ _ b m1 p2 n1 l2
          omega
      · have hs := m3.get.2 i (by omega) hi
        obtain ⟨q1, q2⟩ := n5 i (by omega)
        refine ⟨by rw [← hs.get.1, ← m2]; exact q1, fun j hj' => ?_⟩
        have := (hs.get.2 j (by rw [hs.get.1]; exact hj') hj').rep hpr (q2 j (by rw [hs.get.1]; exact hj'))
        rw [← m2]
        exact this.reid (hrH' _ (List.getElem_mem hj) _ (List.getElem_mem hi) _ (List.getElem_mem hj')) fun o b h1 h2 => low o b h1 h2
    · obtain ⟨hj, rfl⟩ := List.getElem?_eq_some_iff.1 l1
      obtain ⟨hj', rfl⟩ := List.getElem?_eq_some_iff.1 l2
      obtain ⟨y, m1, _⟩ := stay o hj
      obtain ⟨y', m2, _⟩ := stay o' hj'
      exact h2.heap.inj o o' _ _ b m1 m2 (by rw [h3.low o (by omega)]; exact l3) (by rw [h3.low o' (by omega)]; exact l4)
    · rcases hb with hb | hb
      · exact h2.heap.lt b hb
      · exact hpr.owns_lt hb
    · exact (k1.rep hpr k2).reid hrV fun o b h1 h2 => low o b h1 h2
  cases e with
  | normal => obtain ⟨k1, c, k2, k3⟩ := fin (by simpa [retQ, Later_apply] using h1); exact ⟨k1, c, k2, k3⟩
  | ret => obtain ⟨k1, c, k2, k3⟩ := fin (by simpa [retQ, Later_apply] using h1); exact ⟨k1, c, k2, k3⟩
  | _ => exact h1.elim
/-! ### As the walk uses it -/
def renV (rl : List Nat) (v : V) : V := v.ren fun j => rl.getD j 0
def renRow (rl : List Nat) : List V → List V
  | [] => []
  | v :: l => renV rl v :: renRow rl l
def renRows (rl : List Nat) : List (List V) → List (List V)
  | [] => []
  | v :: l => renRow rl v :: renRows rl l
theorem renRow_map {rl : List Nat} : ∀ l : List V, renRow rl l = l.map (renV rl)
  | [] => rfl
  | v :: l => by rw [renRow, renRow_map l]; rfl
theorem renRows_map {rl : List Nat} : ∀ l : List (List V), renRows rl l = l.map (·.map (renV rl))
  | [] => rfl
  | v :: l => by rw [renRows, renRows_map l, renRow_map]; rfl
theorem renRow_nil {rl : List Nat} : renRow rl [] = [] := nrfl rfl
theorem renRow_cons {rl : List Nat} {v : V} {l : List V} : renRow rl (v :: l) = renV rl v :: renRow rl l := nrfl rfl
theorem renRows_nil {rl : List Nat} : renRows rl [] = [] := nrfl rfl
theorem renRows_cons {rl : List Nat} {v : List V} {l : List (List V)} : renRows rl (v :: l) = renRow rl v :: renRows rl l := nrfl rfl
theorem renV_any {rl : List Nat} : renV rl .any = .any := by simp [renV, V.ren]
theorem renV_d {rl : List Nat} {x : D} : renV rl (.d x) = .d x := by simp [renV, V.ren]
theorem renV_iptr {rl : List Nat} {x : List D} : renV rl (.iptr x) = .iptr x := by simp [renV, V.ren]
theorem renV_ptr {rl : List Nat} {o k i j : Nat} : renV rl (.ptr o k i j) = .ptr (rl.getD o 0) k i j := by simp [renV, V.ren]
theorem renV_msl {rl : List Nat} {o k i j : Nat} : renV rl (.msl o k i j) = .msl (rl.getD o 0) k i j := by simp [renV, V.ren]
theorem renV_agg {rl : List Nat} {l : List V} : renV rl (.agg l) = .agg (renRow rl l) := by rw [renV, V.ren, V.renL_map, renRow_map]; rfl
theorem renV_tup {rl : List Nat} {l : List V} : renV rl (.tup l) = .tup (renRow rl l) := by rw [renV, V.ren, V.renL_map, renRow_map]; rfl
theorem renV_fn {rl : List Nat} {f : FuncId} {l : List V} : renV rl (.fn f l) = .fn f (renRow rl l) := by rw [renV, V.ren, V.renL_map, renRow_map]; rfl
theorem renRow_data {rl : List Nat} {l : List D} : renRow rl (l.map .d) = l.map .d := by
  rw [renRow_map, List.map_map]; exact List.map_congr_left fun x _ => renV_d
def inH (rl0 : List Nat) (σ : Heap) : List Nat → List Own → Prop
  | [], [] => True
  | o :: rl, x :: h => σ o = some ⟨x.k, renRows rl0 x.rows⟩ ∧ inH rl0 σ rl h
  | _, _ => False
def updH (rl0 : List Nat) (σ : Heap) : List Nat → List Own → Heap
  | o :: rl, x :: h => updH rl0 (upd σ o (some ⟨x.k, renRows rl0 x.rows⟩)) rl h
  | _, _ => σ
theorem inH_nil {rl0 : List Nat} : inH rl0 σ [] [] = True := nrfl rfl
theorem inH_cons {rl0 rl : List Nat} {o : Nat} {x : Own} {h : List Own} : inH rl0 σ (o :: rl) (x :: h) = (σ o = some ⟨x.k, renRows rl0 x.rows⟩ ∧ inH rl0 σ rl h) := nrfl rfl
theorem updH_nil {rl0 : List Nat} : updH rl0 σ [] [] = σ := nrfl rfl
theorem updH_cons {rl0 rl : List Nat} {o : Nat} {x : Own} {h : List Own} : updH rl0 σ (o :: rl) (x :: h) = updH rl0 (upd σ o (some ⟨x.k, renRows rl0 x.rows⟩)) rl h := nrfl rfl
theorem inH_get {rl0 : List Nat} : ∀ {rl : List Nat} {h : List Own}, inH rl0 σ rl h → rl.length = h.length ∧ ∀ j (hj : j < h.length), σ (rl.getD j 0) = some ⟨h[j].k, renRows rl0 h[j].rows⟩
  | [], [], _ => ⟨rfl, fun i hi => absurd hi (Nat.not_lt_zero i)⟩
  | o :: rl, x :: h, hh => by
    unfold inH at hh
    obtain ⟨h1, h2⟩ := inH_get hh.2
    refine ⟨by simp [h1], fun j hj => ?_⟩
    cases j with
    | zero => exact hh.1
    | succ j => exact h2 j (by simpa using hj)
  | [], _ :: _, h => h.elim
  | _ :: _, [], h => h.elim
theorem updH_get {rl0 : List Nat} : ∀ {rl : List Nat} {h : List Own} {σ : Heap}, rl.length = h.length → rl.Nodup → ∀ o x, updH rl0 σ rl h o = some x → (∃ j, ∃ (hj : j < h.length), o = rl.getD j 0 ∧ x = ⟨h[j].k, renRows rl0 h[j].rows⟩) ∨ (σ o = some x ∧ ∀ j, j < h.length → o ≠ rl.getD j 0)
  | [], [], σ, _, _, o, x, h => .inr ⟨h, fun j hj => absurd hj (Nat.not_lt_zero j)⟩
  | a :: rl, y :: h, σ, hl, hn, o, x, hh => by
    unfold updH at hh
    obtain ⟨hn1, hn2⟩ := List.nodup_cons.1 hn
    have hl' : rl.length = h.length := by simpa using hl
    rcases updH_get hl' hn2 o x hh with ⟨j, hj, h1, h2⟩ | ⟨h1, h2⟩
    · exact .inl ⟨j + 1, by simpa using hj, by simpa using h1, by simpa using h2⟩
    · by_cases ho : o = a
      · subst ho; rw [upd_same] at h1; cases h1; exact .inl ⟨0, by simp, rfl, rfl⟩
      · rw [upd_ne _ _ ho] at h1
        refine .inr ⟨h1, fun j hj => ?_⟩
        cases j with
        | zero => simpa using ho
        | succ j => have := h2 j (by simpa using hj); simpa using this
  | [], _ :: _, _, hl, _, _, _, _ => by simp at hl
  | _ :: _, [], _, hl, _, _, _, _ => by simp at hl
theorem callK_loc [Glb] {N id : Nat} {g : FuncId} {caps args al : List V} {h h' : List Own} {v : V} {L : V → Heap → Prop} (rl : List Nat) (hc : Cl P g al h v h') (ha : args ++ caps = renRow rl al) (hn : rl.Nodup) (hin : inH rl σ rl h) (k : L (renV rl v) (updH rl σ rl h')) : callK P (.fn g caps) args σ N id L := by
  obtain ⟨h1, h2⟩ := inH_get hin
  refine ⟨renV rl v, updH rl σ rl h', .inr ?_, k⟩
  rw [ha, renRow_map]
  refine CallS.loc hc (r := fun j => rl.getD j 0) (fun j hj => ?_) (fun i j hi hj e => ?_) fun o x ho => ?_
  · rw [h2 j hj, renRows_map]; rfl
  · have hi' : i < rl.length := by omega
    have hj' : j < rl.length := by omega
    simp only [List.getD_eq_getElem?_getD, List.getElem?_eq_getElem hi', List.getElem?_eq_getElem hj', Option.getD_some] at e
    exact (List.getElem_inj hn).1 e
  · rcases updH_get (h1.trans hc.len.symm) hn o x ho with ⟨j, hj, k1, k2⟩ | ⟨k1, k2⟩
    · exact .inl ⟨j, hj, k1, by rw [k2, renRows_map]; rfl⟩
    · exact .inr ⟨k1, fun j hj => k2 j (by rw [hc.len]; exact hj)⟩
theorem strAt_nat {s : ByteArray} {k : Nat} : strAt s (k : Int) = s[k]? := by simp [strAt]
theorem bop_shr1 {P : Program} {t : TypeId} {a : Int} : bop P t .shr (.int .u64 a) (.int .u64 1) = some (.int .u64 (a.fdiv 2)) := by simp [bop, IntKind.bits]
theorem hpA_at {h : List Own} {o : Nat} : hpA h o = h[o]? := nrfl rfl
theorem endH_nil {m i : Nat} : endH m σ i [] = True := nrfl rfl
theorem endH_cons {m i : Nat} {x : Own} {r : List Own} : endH m σ i (x :: r) = (optK (σ i) (Later (Hold fun y => y.k = x.k ∧ SealRows (priv m σ) y.rows x.rows)) ∧ endH m σ (i + 1) r) := nrfl rfl
end
end Go.Iso
