/- The abstract layer, part G: whole bodies; a function's contract out of its body. -/
import Derived.Test.YtngmfimpaembnaaGreatDoorIsoF
namespace Go.Iso
open Go Go.RowKit
set_option linter.unusedSimpArgs false
set_option linter.unusedVariables false
def condK (c : V) (A B : Unit → Prop) : Prop := match c with | .d (.val (.bool t)) => (t = true → A ()) ∧ (t = false → B ()) | _ => False
def vc [Glb] (P : Program) (N B : Nat) : Code → (Exit → St → Prop) → St → Prop
  | .skip, Q, st => Q .normal st
  | .region _ ops dr, Q, st => vcOps P dr st.n (st.n + ops.size) ops ops.toList 0 st.fr st.σ (Later (Hold fun fr σ => Q .normal ⟨fr, σ, st.n + ops.size⟩))
  | .seq x y, Q, st => vc P N B x (thenQ (Later (Hold fun s => vc P N B y Q s)) Q) st
  | .cond c x y, Q, st => condK (evO st.fr c) (Later (Hold fun _ => vc P N B x Q st)) (Later (Hold fun _ => vc P N B y Q st))
  | .block id c, Q, st => vc P N B c (blockQ id Q) st
  | .exit id, Q, st => Q (.exit id) st
  | .ret, Q, st => Q .ret st
  | .loop c, Q, st => AW P N B (.loop c) Q st
  | _, _, _ => False
def okB (N : Nat) : Code → Bool
  | .region _ ops dr => (ops.all fun o => dstOk N o.dst) && (!dr || chkB N ops)
  | .seq x y => okB N x && okB N y
  | .cond _ x y => okB N x && okB N y
  | .block _ c => okB N c
  | .loop c => okB N c
  | _ => true
section
variable {P : Program} {N B : Nat}
theorem drew_pure {I : Nat → Prop} {w : World} (n : Nat) (h : ∀ b, I b → b < w.heap.size) : Pure I w I { w with drawn := n } :=
  ⟨⟨rfl, rfl, rfl, Nat.le_refl _, fun _ _ => rfl⟩, fun _ h => h, fun _ h => .inl h, h⟩
theorem AW.region [Glb] (hm : P.follows .mixedOrders = true) {Q : Exit → St → Prop} {st : St} {id : Nat} {ops : Array Oper} {dr : Bool} (hok : okB N (.region id ops dr) = true)
    (h : vcOps P dr st.n (st.n + ops.size) ops ops.toList 0 st.fr st.σ fun fr σ => Q .normal ⟨fr, σ, st.n + ops.size⟩) : AW P N B (.region id ops dr) Q st := by
  intro ρ I a w hc
  simp only [okB, Bool.and_eq_true, Bool.or_eq_true, Bool.not_eq_true'] at hok
  have hdst : ∀ i t, dstAt ops i = some t → t < N := fun i t hi => by
    unfold dstAt at hi
    cases ho : ops[i]? with
    | none => simp [ho] at hi
    | some o =>
      simp only [ho, Option.bind_some] at hi
      have := hok.1
      rw [Array.all_eq_true_iff_forall_mem] at this
      have := this o (Array.mem_of_getElem? ho)
      rw [hi] at this
      simpa [dstOk] using this
  have fin : ∀ fr σ ρ' I' a' w', Q .normal ⟨fr, σ, st.n + ops.size⟩ → HeapOk σ ρ' I' w' → (∀ o, st.n + ops.size ≤ o → ρ' o = none) → (∀ t, RepV ρ' I' w' (fr t) (a'.eval (.tmp t))) → a'.defers = [] → a'.tmps.size = N → Step st.σ ρ I w σ ρ' I' w' → (∀ o, o < st.n → ρ' o = ρ o) →
      ∃ st' ρ' I', Q .normal st' ∧ Conc N B st' ρ' I' a' w' ∧ Frame B st.σ ρ I w st'.σ ρ' I' w' := by
    intro fr σ ρ' I' a' w' hq hh hf hfr hd hN hs hlow
    exact ⟨⟨fr, σ, st.n + ops.size⟩, ρ', I', hq, ⟨hh, hf, hfr, hd, hN, by have := hc.base; show B ≤ st.n + ops.size; omega⟩, ⟨hs.toKept, fun o ho => hlow o (by have := hc.base; omega)⟩⟩
  cases dr with
  | false =>
    refine wp_region ?_
    have := ops_seq (P := P) (ops := ops) (N := N) (n0 := st.n) (M := st.n + ops.size) (dr := false) (σ0 := st.σ) (ρ0 := ρ) (I0 := I) (w0 := w) rfl (K := fun fr σ => Q .normal ⟨fr, σ, st.n + ops.size⟩)
      (Q := fun e a' w' => ∃ st' ρ' I', Q e st' ∧ Conc N B st' ρ' I' a' w' ∧ Frame B st.σ ρ I w st'.σ ρ' I' w') hdst
      (fun fr σ ρ' I' a' w' hk hh hf hfr hd hN hs hlow => fin fr σ ρ' I' a' w' hk hh hf hfr hd hN hs hlow) ops.toList 0 st.fr st.σ ρ I a w (Nat.zero_le _) rfl h hc.heap (fun o ho => hc.fresh o (by omega)) hc.frame hc.defers hc.size (Step.refl _ _ _ _) (fun _ _ => rfl)
    simpa using this
  | true =>
    refine wp_region_any hm ?_
    have hchk := chk_of (hok.2.resolve_left (by simp))
    obtain ⟨vals, hs, G, h1, h2, h3, h4⟩ := vcOps_plan ops.toList 0 st.fr st.σ (fun o ho => by simpa using ho) h
    have p := drew_pure (w := w) (w.drawn + 1) hc.heap.lt
    have hplan : ∀ k o, ops[k]? = some o → (Planned P true st.n (st.n + ops.size) ops k o (G k) (hs k) (vals k) (hs (k + 1)) ∧ PlanX P ops st.n (st.n + ops.size) k o (G k) (hs k) (vals k) (hs (k + 1))) ∧ G (k + 1) = putF (G k) o.dst (vals k) := by
      intro k o ho
      obtain ⟨hk, rfl⟩ := Array.getElem?_eq_some_iff.1 ho
      have := h3 k (by simpa using hk)
      simpa using this
    simp only [Nat.zero_add, Array.length_toList] at h4
    have hnoneσ : ∀ i, st.σ (st.n + i) = none := fun i => by
      cases hx : st.σ (st.n + i) with
      | none => rfl
      | some x =>
        obtain ⟨b, _, _, hb, _⟩ := hc.heap.own _ _ hx
        rw [hc.fresh _ (by omega)] at hb; cases hb
    have hext : extH st.n ops hs 0 (Array.replicate ops.size false) = st.σ := by
      funext o
      unfold extH
      rw [h1]
      refine joinH_none ?_
      unfold xH
      refine if_neg fun h => ?_
      rw [getD_replicate] at h; cases h.2.2.2
    refine ops_any (P := P) (N := N) (n0 := st.n) (M := st.n + ops.size) (σ0 := st.σ) (ρ0 := ρ) (I0 := I) (w0 := w) rfl hchk (fr0 := st.fr) (vals := vals) (hs := hs) (G := G) (fun i => by rw [h1]; exact hnoneσ i) (fun k o ho => (hplan k o ho).1.2) h2 (fun k o ho => ⟨(hplan k o ho).1.1, (hplan k o ho).2⟩)
      (fun ρ' I' a' w' hh hf hfr hd hN hs' hlow => fin _ _ ρ' I' a' w' h4 hh hf hfr hd hN hs' hlow) ops.size _ ρ I a _ ?_ ?_
    · refine ⟨fun i o ho hl => ?_, by simp, ⟨0, Nat.zero_le _, hext ▸ hc.heap.pure p, hext ▸ p.step, fun i o ho hw _ => ?_, fun i _ h => absurd h (Nat.not_lt_zero i)⟩, fun m hm' => hc.fresh m (by omega), fun i hi _ => hc.fresh _ (by omega), fun j t hj hl => ?_, fun t _ => p.step.rep hc.heap (hc.frame t), hc.defers, hc.size, fun _ _ => rfl⟩
      · rw [getD_replicate] at hl; cases hl
      · rw [getD_replicate]; exact ⟨fun h => (by cases h), fun h => absurd h (Nat.not_lt_zero i)⟩
      · rw [getD_replicate] at hl; cases hl
    · exact Nat.le_trans (List.length_filter_le _ _) (by simp)
where
  getD_replicate {m j : Nat} : (Array.replicate m false).getD j false = false := by
    rw [Array.getD_eq_getD_getElem?, Array.getElem?_replicate]; split <;> rfl
theorem vc_sound [Glb] (hm : P.follows .mixedOrders = true) : ∀ (c : Code) (Q : Exit → St → Prop) (st : St), okB N c = true → vc P N B c Q st → AW P N B c Q st
  | .skip, Q, st, _, h => AW.skip h
  | .region id ops dr, Q, st, hok, h => AW.region hm hok h
  | .seq x y, Q, st, hok, h => by
    simp only [okB, Bool.and_eq_true] at hok
    refine AW.seq ((vc_sound hm x _ st hok.1 h).mono fun e s hs => ?_)
    cases e with
    | normal => exact vc_sound hm y Q s hok.2 hs
    | _ => exact hs
  | .cond c x y, Q, st, hok, h => by
    simp only [okB, Bool.and_eq_true] at hok
    unfold vc condK at h
    split at h
    · next t ht => exact AW.cond ht (fun e => vc_sound hm x Q st hok.1 (h.1 e)) (fun e => vc_sound hm y Q st hok.2 (h.2 e))
    · exact h.elim
  | .block id c, Q, st, hok, h => AW.block (vc_sound hm c _ st hok h)
  | .exit id, Q, st, _, h => AW.exit h
  | .ret, Q, st, _, h => AW.ret h
  | .loop c, Q, st, _, h => h
  | .rangeFunc .., _, _, _, h => h.elim
  | .scope _, _, _, _, h => h.elim
  | .label _, _, _, _, h => h.elim
  | .goto _, _, _, _, h => h.elim
  | .refuse _, _, _, _, h => h.elim
/-! ### Results -/
def oneR (P : Program) (st : St) (r : ResultVar) (K : V → Prop) : Prop :=
  match r with
  | .tmp t => moveK (st.fr t) K
  | .cell x t => loadK (aggOf P t) (szOf P t) st.σ (st.fr x) K
def resK (P : Program) (st : St) (rs : List ResultVar) (K : V → Prop) : Prop :=
  match rs with
  | [] => K (.tup [])
  | [r] => oneR P st r K
  | [r, s] => oneR P st r (Later (Hold fun v => oneR P st s (Later (Hold fun u => K (.tup [v, u])))))
  | [r, s, q] => oneR P st r (Later (Hold fun v => oneR P st s (Later (Hold fun u => oneR P st q (Later (Hold fun x => K (.tup [v, u, x])))))))
  | _ => False
def runR (P : Program) (w : World) (a : Act) (r : ResultVar) (c : Value) : Prop :=
  (match r with
    | .tmp t => (Pure.pure (a.tmps.getD t undef) : Sem Value)
    | .cell x t => do loadVar t (← asAddr (a.tmps.getD x undef))).run P w = .ok c w
theorem oneR_sound [Glb] {st : St} {ρ : Nat → Option Nat} {I : Nat → Prop} {a : Act} {w : World} (hc : Conc N B st ρ I a w) {r : ResultVar} {K : V → Prop} (h : oneR P st r K) : ∃ v c, K v ∧ RepV ρ I w v c ∧ runR P w a r c := by
  unfold oneR at h
  split at h
  · next t => exact ⟨_, _, h, hc.frame t, rfl⟩
  · next x t =>
    have hx := hc.frame x
    unfold loadK at h
    split at h
    · next agg n cs h1 h2 hcs =>
      obtain ⟨v, h3, h4⟩ := optK_some h
      obtain ⟨b, off, hr, he⟩ := hx.toIptr hcs
      obtain ⟨c, k1, k2⟩ := run_loadIptr (P := P) (ρ := ρ) hr h1 h2 h3
      refine ⟨v, c, h4, k2, ?_⟩
      simp only [Act.eval] at he
      simp [runR, he, asAddr, k1]
    · next agg n o k i j h1 h2 ho =>
      obtain ⟨ow, h3, h4, h⟩ := optK_some h
      obtain ⟨row, h5, h⟩ := optK_some h
      obtain ⟨v, h6, h7⟩ := optK_some h
      obtain ⟨b, hb, he⟩ := hx.toPtr ho
      subst h4
      obtain ⟨c, k1, k2⟩ := run_loadVar (P := P) (ρ := ρ) (I := I) (w := w) (b := b) (off := i * ow.k + j) h1 h2 h6 (hc.heap.cells h3 hb h5 j)
      refine ⟨v, c, h7, k2, ?_⟩
      simp only [Act.eval] at he
      simp [runR, he, asAddr, k1]
    · exact h.elim
theorem resK_sound [Glb] {st : St} {ρ : Nat → Option Nat} {I : Nat → Prop} {a : Act} {w : World} (hc : Conc N B st ρ I a w) {fn : Func} {K : V → Prop} (h : resK P st fn.results.toList K) :
    ∃ v c, K v ∧ RepV ρ I w v c ∧ (results fn a.tmps).run P w = .ok c w := by
  have harr : ∀ l, fn.results.toList = l → fn.results = l.toArray := fun l hl => by rw [← hl]
  unfold resK at h
  split at h
  · next hl =>
    refine ⟨_, .tuple #[], h, .tup rfl (fun i hi => absurd hi (Nat.not_lt_zero i)), ?_⟩
    simp [results, harr _ hl]
  · next r hl =>
    obtain ⟨v, c, h1, h2, h3⟩ := oneR_sound hc h
    refine ⟨v, c, h1, h2, ?_⟩
    unfold runR at h3
    simp [results, harr _ hl, h3]
    cases r <;> simp_all
  · next r s hl =>
    obtain ⟨v, c, h1, h2, h3⟩ := oneR_sound hc h
    obtain ⟨u, d, k1, k2, k3⟩ := oneR_sound hc h1
    refine ⟨_, .tuple #[c, d], k1, .tup rfl (fun i hi => ?_), ?_⟩
    · match i, hi with
      | 0, _ => exact h2
      | 1, _ => exact k2
    · unfold runR at h3 k3
      simp [results, harr _ hl, h3, k3]
      cases r <;> cases s <;> simp_all
  · next r s q hl =>
    obtain ⟨v, c, h1, h2, h3⟩ := oneR_sound hc h
    obtain ⟨u, d, k1, k2, k3⟩ := oneR_sound hc h1
    obtain ⟨x, e, l1, l2, l3⟩ := oneR_sound hc k1
    refine ⟨_, .tuple #[c, d, e], l1, .tup rfl (fun i hi => ?_), ?_⟩
    · match i, hi with
      | 0, _ => exact h2
      | 1, _ => exact k2
      | 2, _ => exact l2
    · unfold runR at h3 k3 l3
      simp [results, harr _ hl, h3, k3, l3]
      cases r <;> cases s <;> cases q <;> simp_all
  · exact h.elim
end
end Go.Iso
