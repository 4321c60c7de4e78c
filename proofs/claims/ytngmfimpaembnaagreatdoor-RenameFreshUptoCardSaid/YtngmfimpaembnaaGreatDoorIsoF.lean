/- The abstract layer, part F: regions in any order. -/
import Derived.Test.YtngmfimpaembnaaGreatDoorIsoE
namespace Go.Iso
open Go Go.RowKit
set_option linter.unusedSimpArgs false
set_option linter.unusedVariables false
def dstAt (ops : Array Oper) (i : Nat) : Option Tmp := (ops[i]?).bind (·.dst)
def guardV (ops : Array Oper) (fr : Nat → V) (j : Nat) : V := match dstAt ops j with | some t => fr t | none => .any
def guardK (v : V) (want : Bool) (A B : Unit → Prop) : Prop :=
  match v with
  | .d (.val (.bool b)) => (b = want → A ()) ∧ (b ≠ want → B ())
  | .tup [] => B ()
  | _ => False
def offV (v : V) (want : Bool) : Prop := (∃ b, v = .d (.val (.bool b)) ∧ b ≠ want) ∨ v = .tup []
theorem undef_rep {ρ : Nat → Option Nat} {I : Nat → Prop} {w : World} : RepV ρ I w (.tup []) undef := .tup rfl fun i hi => absurd hi (Nat.not_lt_zero i)
def vcOps [Glb] (P : Program) (dr : Bool) (n0 M : Nat) (ops : Array Oper) : List Oper → Nat → (Nat → V) → Heap → ((Nat → V) → Heap → Prop) → Prop
  | [], _, fr, σ, K => K fr σ
  | o :: rest, i, fr, σ, K =>
    match o.guard with
    | none => wv P dr M o.op fr σ (n0 + i) (Later (Hold fun v σ' => vcOps P dr n0 M ops rest (i + 1) (putF fr o.dst v) σ' K))
    | some (j, want) => guardK (guardV ops fr j) want (Later (Hold fun _ => wv P dr M o.op fr σ (n0 + i) (Later (Hold fun v σ' => vcOps P dr n0 M ops rest (i + 1) (putF fr o.dst v) σ' K))))
        (Later (Hold fun _ => vcOps P dr n0 M ops rest (i + 1) (putF fr o.dst (.tup [])) σ K))
def isAl : Op → Bool
  | .alloc _ => true
  | _ => false
def isSt : Op → Bool
  | .store .. => true
  | _ => false
def simpB (ops : Array Oper) : Bool := ops.all fun o => !isW o.op || isAl o.op || isSt o.op
def alB (ops : Array Oper) (i : Nat) : Bool := simpB ops && ((ops[i]?).map fun o => o.guard.isNone && isAl o.op).getD false
def tgtB (ops : Array Oper) (i : Nat) : Op → Bool
  | .store _ (.tmp s) _ => (List.range i).any fun a => alB ops a && dstAt ops a == some s
  | _ => false
def a0B (ops : Array Oper) : Nat := ((List.range ops.size).find? fun i => alB ops i).getD 0
def phB (ops : Array Oper) : Bool := simpB ops && (List.range ops.size).all fun i => ((ops[i]?).map fun o => !isW o.op || (decide (a0B ops ≤ i) && (alB ops i || tgtB ops i o.op))).getD true
def loB (ops : Array Oper) : Nat := if phB ops then a0B ops else 0
section
variable {P : Program} {ops : Array Oper} {N B n0 M : Nat}
theorem phB_ex (h : phB ops = true) {i : Nat} {o : Oper} (ho : ops[i]? = some o) (hw : isW o.op = true) : a0B ops ≤ i ∧ (alB ops i = true ∨ tgtB ops i o.op = true) := by
  unfold phB at h
  rw [Bool.and_eq_true, List.all_eq_true] at h
  have := h.2 i (by simpa using (Array.getElem?_eq_some_iff.1 ho).1)
  rw [ho] at this
  simpa [hw] using this
theorem phB_simp (h : phB ops = true) : simpB ops = true := by
  unfold phB at h; rw [Bool.and_eq_true] at h; exact h.1
theorem lo_ph {i : Nat} (h : i < loB ops) : phB ops = true ∧ i < a0B ops := by
  unfold loB at h
  split at h
  · next h1 => exact ⟨h1, h⟩
  · omega
theorem lo_W {i : Nat} {o : Oper} (ho : ops[i]? = some o) (hw : isW o.op = true) : loB ops ≤ i := by
  unfold loB
  split
  · next h => exact (phB_ex h ho hw).1
  · omega
theorem tgtB_ex {i : Nat} {op : Op} (h : tgtB ops i op = true) : ∃ t s y a, op = .store t (.tmp s) y ∧ a < i ∧ alB ops a = true ∧ dstAt ops a = some s := by
  unfold tgtB at h
  split at h
  · next t s y =>
    rw [List.any_eq_true] at h
    obtain ⟨a, ha, h⟩ := h
    simp only [Bool.and_eq_true, beq_iff_eq] at h
    exact ⟨_, _, _, a, rfl, by simpa using ha, h.1, h.2⟩
  · cases h
theorem isAl_ex {op : Op} (h : isAl op = true) : ∃ t, op = .alloc t := by cases op <;> simp [isAl] at h; exact ⟨_, rfl⟩
theorem isSt_ex {op : Op} (h : isSt op = true) : ∃ t x y, op = .store t x y := by cases op <;> simp [isSt] at h; exact ⟨_, _, _, rfl⟩
theorem alB_ex {i : Nat} (h : alB ops i = true) : simpB ops = true ∧ ∃ o, ops[i]? = some o ∧ o.guard = none ∧ isAl o.op = true := by
  unfold alB at h
  rw [Bool.and_eq_true] at h
  refine ⟨h.1, ?_⟩
  cases ho : ops[i]? with
  | none => rw [ho] at h; simp at h
  | some o =>
    rw [ho] at h
    simp only [Option.map_some, Option.getD_some, Bool.and_eq_true, Option.isNone_iff_eq_none] at h
    exact ⟨o, rfl, h.2.1, h.2.2⟩
theorem alB_lt {i : Nat} (h : alB ops i = true) : i < ops.size := by
  obtain ⟨_, o, ho, _⟩ := alB_ex h
  exact (Array.getElem?_eq_some_iff.1 ho).1
def PlanX [Glb] (P : Program) (ops : Array Oper) (n0 M i : Nat) (o : Oper) (fr : Nat → V) (σ : Heap) (v : V) (σ' : Heap) : Prop :=
  simpB ops = true → (o.guard = none → isAl o.op = true → (∃ k', v = .ptr (n0 + i) k' 0 0) ∧ ∃ z, σ' = upd σ (n0 + i) (some z) ∧ ∀ (G2 : Nat → V) (σ2 : Heap), OpW P o.op G2 σ2 M (n0 + i) v (upd σ2 (n0 + i) (some z))) ∧ (∀ m, m ≠ n0 + i → σ m = none → σ' m = none) ∧ (∀ t x y, o.op = .store t x y → σ' = σ ∨ ∃ p k1 k2 k3 w, evO fr x = .ptr p k1 k2 k3 ∧ σ' = upd σ p (some w))
theorem wv_plan [Glb] {G : Nat → V} {σ : Heap} {dr : Bool} {N : Nat} {op : Op} {id : Nat} {K : V → Heap → Prop} (h : wv P dr N op G σ id K) (simp : Bool) (hs : simp = true → isW op = true → isAl op = true ∨ isSt op = true) :
    ∃ v σ', (OpW P op G σ N id v σ' ∧ (dr = true → isW op = false → σ' = σ ∧ OpP P op G σ v ∧ (slotOnly op = true → ∀ σ2, OpP P op G σ2 v))) ∧ K v σ' ∧
      (dr = true → simp = true → (isAl op = true → (∃ k', v = .ptr id k' 0 0) ∧ ∃ z, σ' = upd σ id (some z) ∧ ∀ (G2 : Nat → V) (σ2 : Heap), OpW P op G2 σ2 N id v (upd σ2 id (some z))) ∧ (∀ m, m ≠ id → σ m = none → σ' m = none) ∧ (∀ t x y, op = .store t x y → σ' = σ ∨ ∃ p k1 k2 k3 w, evO G x = .ptr p k1 k2 k3 ∧ σ' = upd σ p (some w))) := by
  by_cases hd : dr = true ∧ simp = true
  · obtain ⟨rfl, hsi⟩ := hd
    by_cases hw : isW op = true
    · rcases hs hsi hw with ha | ha
      · obtain ⟨t, rfl⟩ := isAl_ex ha
        change allocK (zOf P t) σ id K at h
        unfold allocK at h; split at h
        · next z h1 => exact ⟨_, _, ⟨.alloc h1 h.1, fun _ h => by cases h⟩, h.2, fun _ _ => ⟨fun _ => ⟨⟨_, rfl⟩, _, rfl, fun G2 σ2 => .alloc h1 h.1⟩, (fun m hm hn => by rw [upd_ne _ _ hm]; exact hn), fun _ _ _ e => by cases e⟩⟩
        · exact h.elim
      · obtain ⟨t, x, y, rfl⟩ := isSt_ex ha
        change storeK (szOf P t) (evO G x) (evO G y) σ K at h
        unfold storeK at h; split at h
        · next n o k i j h1 hx =>
          obtain ⟨ow, h2, h3, h⟩ := optK_some h
          obtain ⟨row, h4, h5, h6, h7, h8, h9⟩ := optK_some h
          refine ⟨_, _, ⟨.store hx h2 h3 h4 h1 h5 h6 h7 h8, fun _ h => by cases h⟩, h9, fun _ _ => ⟨(fun h => by cases h), fun m hm hn => ?_, fun _ _ _ e => by cases e; exact .inr ⟨_, _, _, _, _, hx, rfl⟩⟩⟩
          have : m ≠ o := fun e => by rw [e, h2] at hn; cases hn
          rw [upd_ne _ _ this]; exact hn
        · exact h.elim
    · obtain ⟨v, σ', h1, h2, h3⟩ := wv_sound h
      obtain ⟨e, _⟩ := h2 rfl (by simpa using hw)
      refine ⟨v, σ', ⟨h1, h2⟩, h3, fun _ _ => ⟨fun ha => ?_, (fun m _ hn => e ▸ hn), fun _ _ _ _ => .inl e⟩⟩
      obtain ⟨t, rfl⟩ := isAl_ex ha
      exact absurd rfl hw
  · obtain ⟨v, σ', h1, h2, h3⟩ := wv_sound h
    exact ⟨v, σ', ⟨h1, h2⟩, h3, fun a b => absurd ⟨a, b⟩ hd⟩
def Planned [Glb] (P : Program) (dr : Bool) (n0 M : Nat) (ops : Array Oper) (i : Nat) (o : Oper) (fr : Nat → V) (σ : Heap) (v : V) (σ' : Heap) : Prop :=
  (((o.guard = none ∨ ∃ j want t, o.guard = some (j, want) ∧ dstAt ops j = some t ∧ fr t = .d (.val (.bool want))) ∧
    OpW P o.op fr σ M (n0 + i) v σ' ∧ (dr = true → isW o.op = false → σ' = σ ∧ OpP P o.op fr σ v ∧ (slotOnly o.op = true → ∀ σ2, OpP P o.op fr σ2 v)))
   ∨ ((∃ j want t, o.guard = some (j, want) ∧ dstAt ops j = some t ∧ offV (fr t) want) ∧ v = .tup [] ∧ σ' = σ))
theorem vcOps_plan [Glb] {dr : Bool} {K : (Nat → V) → Heap → Prop} : ∀ (rest : List Oper) (i : Nat) (fr : Nat → V) (σ : Heap), (∀ o ∈ rest, o ∈ ops) → vcOps P dr n0 M ops rest i fr σ K →
    ∃ (vals : Nat → V) (hs : Nat → Heap) (G : Nat → Nat → V), hs i = σ ∧ G i = fr ∧
      (∀ k (hk : k < rest.length), (Planned P dr n0 M ops (i + k) rest[k] (G (i + k)) (hs (i + k)) (vals (i + k)) (hs (i + k + 1)) ∧ (dr = true → PlanX P ops n0 M (i + k) rest[k] (G (i + k)) (hs (i + k)) (vals (i + k)) (hs (i + k + 1)))) ∧ G (i + k + 1) = putF (G (i + k)) rest[k].dst (vals (i + k))) ∧
      K (G (i + rest.length)) (hs (i + rest.length))
  | [], i, fr, σ, _, h => ⟨fun _ => .any, fun _ => σ, fun _ => fr, rfl, rfl, fun k hk => absurd hk (Nat.not_lt_zero k), h⟩
  | o :: rest, i, fr, σ, hsub, h => by
    unfold vcOps at h
    have hsi : simpB ops = true → isW o.op = true → isAl o.op = true ∨ isSt o.op = true := fun hs hw => by
      unfold simpB at hs
      rw [Array.all_eq_true_iff_forall_mem] at hs
      have := hs o (hsub o (List.mem_cons_self ..))
      simpa [hw] using this
    have key : ∀ v σ', Planned P dr n0 M ops i o fr σ v σ' → (dr = true → PlanX P ops n0 M i o fr σ v σ') → vcOps P dr n0 M ops rest (i + 1) (putF fr o.dst v) σ' K →
        ∃ (vals : Nat → V) (hs : Nat → Heap) (G : Nat → Nat → V), hs i = σ ∧ G i = fr ∧
          (∀ k (hk : k < (o :: rest).length), (Planned P dr n0 M ops (i + k) (o :: rest)[k] (G (i + k)) (hs (i + k)) (vals (i + k)) (hs (i + k + 1)) ∧ (dr = true → PlanX P ops n0 M (i + k) (o :: rest)[k] (G (i + k)) (hs (i + k)) (vals (i + k)) (hs (i + k + 1)))) ∧ G (i + k + 1) = putF (G (i + k)) (o :: rest)[k].dst (vals (i + k))) ∧
          K (G (i + (o :: rest).length)) (hs (i + (o :: rest).length)) := by
      intro v σ' hp hx hv
      obtain ⟨vals, hs, G, h1, h2, h3, h4⟩ := vcOps_plan rest (i + 1) _ _ (fun o ho => hsub o (List.mem_cons_of_mem _ ho)) hv
      refine ⟨upd vals i v, upd hs i σ, upd G i fr, upd_same _ _ _, upd_same _ _ _, fun k hk => ?_, ?_⟩
      · cases k with
        | zero =>
          simp only [Nat.add_zero, upd_same, List.getElem_cons_zero]
          rw [upd_ne hs σ (by omega : i + 1 ≠ i), upd_ne G fr (by omega : i + 1 ≠ i), h1, h2]
          exact ⟨⟨hp, hx⟩, rfl⟩
        | succ k =>
          have hk' : k < rest.length := by simpa using hk
          have e : i + (k + 1) = i + 1 + k := by omega
          rw [e, upd_ne vals v (by omega : i + 1 + k ≠ i), upd_ne hs σ (by omega : i + 1 + k ≠ i), upd_ne hs σ (by omega : i + 1 + k + 1 ≠ i), upd_ne G fr (by omega : i + 1 + k ≠ i), upd_ne G fr (by omega : i + 1 + k + 1 ≠ i)]
          exact h3 k hk'
      · rw [show i + (o :: rest).length = i + 1 + rest.length by simp; omega, upd_ne hs σ (by omega), upd_ne G fr (by omega)]
        exact h4
    split at h
    · next hg =>
      obtain ⟨v, σ', ⟨h1, h2⟩, h3, h4⟩ := wv_plan h (simpB ops) hsi
      exact key v σ' (.inl ⟨.inl hg, h1, h2⟩) (fun hd hs => ⟨fun _ => (h4 hd hs).1, (h4 hd hs).2.1, (h4 hd hs).2.2⟩) h3
    · next j want hg =>
      unfold guardK at h
      split at h
      · next b hb0 =>
        unfold guardV at hb0
        split at hb0
        · next t ht =>
          have hb := hb0
          by_cases hbw : b = want
          · subst hbw
            obtain ⟨v, σ', ⟨h1, h2⟩, h3, h4⟩ := wv_plan (h.1 rfl) (simpB ops) hsi
            exact key v σ' (.inl ⟨.inr ⟨j, b, t, hg, ht, hb⟩, h1, h2⟩) (fun hd hs => ⟨fun _ => (h4 hd hs).1, (h4 hd hs).2.1, (h4 hd hs).2.2⟩) h3
          · exact key (.tup []) σ (.inr ⟨⟨j, want, t, hg, ht, .inl ⟨b, hb, hbw⟩⟩, rfl, rfl⟩) (fun _ _ => ⟨(fun h => by rw [hg] at h; cases h), (fun _ _ h => h), fun _ _ _ _ => .inl rfl⟩) (h.2 hbw)
        · cases hb0
      · next hb0 =>
        unfold guardV at hb0
        split at hb0
        · next t ht => exact key (.tup []) σ (.inr ⟨⟨j, want, t, hg, ht, .inr hb0⟩, rfl, rfl⟩) (fun _ _ => ⟨(fun h => by rw [hg] at h; cases h), (fun _ _ h => h), fun _ _ _ _ => .inl rfl⟩) h
        · cases hb0
      · exact h.elim
theorem wanted_true {o : Oper} {ρ : Nat → Option Nat} {I : Nat → Prop} {w : World} {a : Act} (hN : a.tmps.size = N) {t : Tmp} {j : Nat} {want b : Bool} (hg : o.guard = some (j, want)) (ht : dstAt ops j = some t) (hlt : t < N)
    (hv : RepV ρ I w (.d (.val (.bool b))) (a.eval (.tmp t))) : Region.wanted o (yielded ops a.tmps) = (b == want) := by
  have h1 := hv.val rfl
  simp only [Act.eval, Array.getD_eq_getD_getElem?, Array.getElem?_eq_getElem (hN ▸ hlt : t < a.tmps.size), Option.getD_some] at h1
  unfold dstAt at ht
  simp [Region.wanted, hg, yielded, ht, h1, Array.getElem?_eq_getElem (hN ▸ hlt : t < a.tmps.size)]
theorem wanted_off {o : Oper} {ρ : Nat → Option Nat} {I : Nat → Prop} {w : World} {a : Act} (hN : a.tmps.size = N) {t : Tmp} {j : Nat} {want : Bool} {v : V} (hg : o.guard = some (j, want)) (ht : dstAt ops j = some t) (hlt : t < N)
    (hv : RepV ρ I w v (a.eval (.tmp t))) (ho : offV v want) : Region.wanted o (yielded ops a.tmps) = false := by
  rcases ho with ⟨b, rfl, hb⟩ | rfl
  · rw [wanted_true hN hg ht hlt hv]; simpa using hb
  · obtain ⟨vs, h1, h2, _⟩ := hv.toTup rfl
    simp only [Act.eval, Array.getD_eq_getD_getElem?, Array.getElem?_eq_getElem (hN ▸ hlt : t < a.tmps.size), Option.getD_some] at h1
    unfold dstAt at ht
    simp [Region.wanted, hg, yielded, ht, h1, Array.getElem?_eq_getElem (hN ▸ hlt : t < a.tmps.size)]
/-! ### The order of the text -/
theorem ops_seq [Glb] {Q : Exit → Act → World → Prop} {dr : Bool} {σ0 : Heap} {ρ0 : Nat → Option Nat} {I0 : Nat → Prop} {w0 : World} (hM : M = n0 + ops.size) {K : (Nat → V) → Heap → Prop}
    (hdst : ∀ i t, dstAt ops i = some t → t < N)
    (hQ : ∀ fr σ ρ I a w, K fr σ → HeapOk σ ρ I w → (∀ o, M ≤ o → ρ o = none) → (∀ t, RepV ρ I w (fr t) (a.eval (.tmp t))) → a.defers = [] → a.tmps.size = N → Step σ0 ρ0 I0 w0 σ ρ I w → (∀ o, o < n0 → ρ o = ρ0 o) → Q .normal a w) :
    ∀ (rest : List Oper) (i : Nat) (fr : Nat → V) (σ : Heap) (ρ : Nat → Option Nat) (I : Nat → Prop) (a : Act) (w : World), i ≤ ops.size → ops.toList.drop i = rest → vcOps P dr n0 M ops rest i fr σ K →
      HeapOk σ ρ I w → (∀ o, n0 + i ≤ o → ρ o = none) → (∀ t, RepV ρ I w (fr t) (a.eval (.tmp t))) → a.defers = [] → a.tmps.size = N → Step σ0 ρ0 I0 w0 σ ρ I w → (∀ o, o < n0 → ρ o = ρ0 o) →
      wpOps P ops Q ((List.range ops.size).drop i) a w
  | [], i, fr, σ, ρ, I, a, w, hle, hr, hv, hh, hf, hfr, hd, hN, hs, hlow => by
    have hi : ops.size ≤ i := by simpa using List.drop_eq_nil_iff.1 hr
    rw [List.drop_eq_nil_iff.2 (by simpa using hi)]
    exact hQ fr σ ρ I a w hv hh (fun o ho => hf o (by omega)) hfr hd hN hs hlow
  | o :: rest, i, fr, σ, ρ, I, a, w, hle, hr, hv, hh, hf, hfr, hd, hN, hs, hlow => by
    have hlt : i < ops.size := by
      rcases Nat.lt_or_ge i ops.size with h | h
      · exact h
      · rw [List.drop_eq_nil_iff.2 (by simpa using h)] at hr; cases hr
    have hcons : (List.range ops.size).drop i = i :: (List.range ops.size).drop (i + 1) := by
      rw [List.drop_eq_getElem_cons (by simpa using hlt)]; simp
    have ho : ops[i]? = some o := by
      have h1 : (ops.toList.drop i)[0]? = some o := by rw [hr]; rfl
      simpa [List.getElem?_drop] using h1
    have hr' : ops.toList.drop (i + 1) = rest := by
      rw [← List.tail_drop, hr]; rfl
    rw [hcons]
    unfold vcOps at hv
    have hdo : dstOk N o.dst = true := by
      cases hd' : o.dst with
      | none => rfl
      | some t => simpa [dstOk] using hdst i t (by simp [dstAt, ho, hd'])
    simp only [wpOps, ho]
    have ok : OkOn fr ρ I w a o.op.operands := fun t _ => hfr t
    have exec : ∀ v σ', OpW P o.op fr σ M (n0 + i) v σ' → vcOps P dr n0 M ops rest (i + 1) (putF fr o.dst v) σ' K → o.wp P a w (wpOps P ops Q ((List.range ops.size).drop (i + 1))) Q := by
      intro v σ' hw hk
      refine hw o rfl ρ I a w hh (fun m hm => hf m (by omega)) (hf _ (Nat.le_refl _)) ok _ _ fun c ρ' I' w' hs' hh' hid hv' => ?_
      refine ops_seq hM hdst hQ rest (i + 1) _ σ' ρ' I' _ w' hlt hr' hk hh' (fun m hm => by rw [hid m (by omega)]; exact hf m (by omega)) ?_ (put_defers.trans hd) (put_size.trans hN) (hs.trans hs') (fun m hm => (hid m (by omega)).trans (hlow m hm))
      exact frame_put (fun t => hs'.rep hh (hfr t)) hN hdo hv'
    have skip : vcOps P dr n0 M ops rest (i + 1) (putF fr o.dst (.tup [])) σ K → wpOps P ops Q ((List.range ops.size).drop (i + 1)) (a.put o.dst undef) w := fun hk =>
      ops_seq hM hdst hQ rest (i + 1) _ σ ρ I _ w hlt hr' hk hh (fun m hm => hf m (by omega)) (frame_put hfr hN hdo undef_rep) (put_defers.trans hd) (put_size.trans hN) hs hlow
    split at hv
    · next hg =>
      obtain ⟨v, σ', h1, _, h3⟩ := wv_sound hv
      rw [if_pos (by simp [Region.wanted, hg])]
      exact .inl (exec v σ' h1 h3)
    · next j want hg =>
      unfold guardK at hv
      split at hv
      · next b hb0 =>
        unfold guardV at hb0
        split at hb0
        · next t ht =>
          have hb := hb0
          have hwant := wanted_true (N := N) (ops := ops) hN hg ht (hdst j t ht) (hb ▸ hfr t)
          by_cases hbw : b = want
          · obtain ⟨v, σ', h1, _, h3⟩ := wv_sound (hv.1 hbw)
            rw [if_pos (by rw [hwant]; simpa using hbw)]
            exact .inl (exec v σ' h1 h3)
          · rw [if_neg (by rw [hwant]; simpa using hbw)]
            exact skip (hv.2 hbw)
        · cases hb0
      · next hb0 =>
        unfold guardV at hb0
        split at hb0
        · next t ht =>
          rw [if_neg (by rw [wanted_off (N := N) (ops := ops) hN hg ht (hdst j t ht) (hfr t) (.inr hb0)]; simp)]
          exact skip hv
        · cases hb0
      · exact hv.elim
/-! ### Any order -/
def ancB (ops : Array Oper) : Nat → Nat → Nat → Bool
  | 0, _, _ => false
  | n + 1, i, j => ((ops[i]?).map (·.after.toList.any fun e => Region.binds .any e && (e.on == j || ancB ops n e.on j))).getD false
def orderedB (ops : Array Oper) (i j : Nat) : Bool := (decide (j < i) && ancB ops ops.size i j) || (decide (i < j) && ancB ops ops.size j i)
def chkB (N : Nat) (ops : Array Oper) : Bool :=
  (List.range ops.size).all fun i =>
    ((ops[i]?).map fun o => o.after.all (fun e => !Region.binds .any e || decide (e.on < i)) && dstOk N o.dst &&
      (List.range ops.size).all fun j => i == j ||
        (match dstAt ops j with
         | some t => o.dst != some t && (!(o.looksAt ops).contains t || orderedB ops i j)
         | none => true) &&
        (match ops[j]? with
         | some oj => !(isW o.op && !slotOnly oj.op) || (decide (j < loB ops) || (if alB ops i then alB ops j || decide (j < i) || ancB ops ops.size j i else alB ops j || orderedB ops i j))
         | none => true)).getD true
structure Chk (N : Nat) (ops : Array Oper) : Prop where
  edge : ∀ (i : Nat) (o : Oper), ops[i]? = some o → ∀ e ∈ o.after, Region.binds .any e = true → e.on < i
  dst : ∀ (i : Nat) (o : Oper), ops[i]? = some o → dstOk N o.dst = true
  one : ∀ (i : Nat) (o : Oper) (j : Nat) (t : Tmp), ops[i]? = some o → i ≠ j → dstAt ops j = some t → o.dst ≠ some t
  look : ∀ (i : Nat) (o : Oper) (j : Nat) (t : Tmp), ops[i]? = some o → i ≠ j → dstAt ops j = some t → t ∈ o.looksAt ops → orderedB ops i j = true
  heap : ∀ (i : Nat) (o : Oper) (j : Nat) (oj : Oper), ops[i]? = some o → ops[j]? = some oj → i ≠ j → isW o.op = true → slotOnly oj.op = false → alB ops i = false → alB ops j = false → loB ops ≤ j → orderedB ops i j = true
  heapA : ∀ (i : Nat) (o : Oper) (j : Nat) (oj : Oper), ops[i]? = some o → ops[j]? = some oj → i ≠ j → isW o.op = true → slotOnly oj.op = false → alB ops i = true → alB ops j = false → loB ops ≤ j → i < j → ancB ops ops.size j i = true
theorem chk_of {ops : Array Oper} (h : chkB N ops = true) : Chk N ops := by
  unfold chkB at h
  rw [List.all_eq_true] at h
  have get : ∀ i o, ops[i]? = some o → _ := fun i o (ho : ops[i]? = some o) => by
    have hi : i < ops.size := (Array.getElem?_eq_some_iff.1 ho).1
    have := h i (by simpa using hi)
    rw [ho] at this
    simp only [Option.map_some, Option.getD_some, Bool.and_eq_true] at this
    exact this
  have getj : ∀ i o j, ops[i]? = some o → i ≠ j → j < ops.size → _ := fun i o j (ho : ops[i]? = some o) (hij : i ≠ j) (hj : j < ops.size) => by
    have := (get i o ho).2
    rw [List.all_eq_true] at this
    have := this j (by simpa using hj)
    simp only [(by simpa using hij : (i == j) = false), Bool.or_eq_true, Bool.false_eq_true, false_or, Bool.and_eq_true] at this
    exact this
  have dlt : ∀ j t, dstAt ops j = some t → j < ops.size := fun j t hj => by
    rcases Nat.lt_or_ge j ops.size with h | h
    · exact h
    · simp [dstAt, Array.getElem?_eq_none h] at hj
  refine ⟨fun i o ho e he hb => ?_, fun i o ho => (get i o ho).1.2, fun i o j t ho hij hj => ?_, fun i o j t ho hij hj hl => ?_, fun i o j oj ho hj hij h1 h2 h3 h4 h6 => ?_, fun i o j oj ho hj hij h1 h2 h3 h4 h6 h5 => ?_⟩
  · have := (get i o ho).1.1
    rw [Array.all_eq_true_iff_forall_mem] at this
    have := this e he
    simpa [hb] using this
  · have := (getj i o j ho hij (dlt j t hj)).1
    rw [hj] at this
    simp only [Bool.and_eq_true, bne_iff_ne, ne_eq] at this
    exact this.1
  · have := (getj i o j ho hij (dlt j t hj)).1
    rw [hj] at this
    simp only [Bool.and_eq_true, Bool.or_eq_true, Bool.not_eq_true', List.contains_eq_mem, decide_eq_false_iff_not] at this
    exact this.2.resolve_left (fun h => h hl)
  · have := (getj i o j ho hij (Array.getElem?_eq_some_iff.1 hj).1).2
    rw [hj] at this
    have hlo : ¬ j < loB ops := by omega
    simpa [h1, h2, h3, h4, hlo] using this
  · have := (getj i o j ho hij (Array.getElem?_eq_some_iff.1 hj).1).2
    rw [hj] at this
    have hn : ¬ j < i := by omega
    have hlo : ¬ j < loB ops := by omega
    simpa [h1, h2, h3, h4, hn, hlo] using this
def Down (ops : Array Oper) (listed : Array Bool) : Prop :=
  ∀ i o, ops[i]? = some o → listed.getD i false = true → ∀ e ∈ o.after, Region.binds .any e = true → listed.getD e.on false = true
theorem anc_listed {listed : Array Bool} (hd : Down ops listed) : ∀ (n i j : Nat), ancB ops n i j = true →
    (∀ o, ops[i]? = some o → ∀ e ∈ o.after, Region.binds .any e = true → listed.getD e.on false = true) → listed.getD j false = true
  | 0, i, j, h, _ => by cases h
  | n + 1, i, j, h, hi => by
    unfold ancB at h
    cases ho : ops[i]? with
    | none => simp [ho] at h
    | some o =>
      simp only [ho, Option.map_some, Option.getD_some, List.any_eq_true] at h
      obtain ⟨e, he, h⟩ := h
      have he : e ∈ o.after := by simpa using he
      simp only [Bool.and_eq_true, Bool.or_eq_true, beq_iff_eq] at h
      have hl := hi o ho e he h.1
      rcases h.2 with h2 | h2
      · exact h2 ▸ hl
      · exact anc_listed hd n e.on j h2 fun o' ho' e' he' hb' => hd _ o' ho' hl e' he' hb'
theorem isW_slot {op : Op} (h : isW op = true) : slotOnly op = false := by
  unfold isW at h
  split at h <;> first | rfl | cases h
/-! ### Variables that were made early -/
def joinH (σ X : Heap) : Heap := fun o => (X o).or (σ o)
theorem joinH_none {σ X : Heap} {o : Nat} (h : X o = none) : joinH σ X o = σ o := by simp [joinH, h]
theorem joinH_some {σ X : Heap} {o : Nat} {x : Own} (h : X o = some x) : joinH σ X o = some x := by simp [joinH, h]
theorem OpW.frame [Glb] {op : Op} {G : Nat → V} {σ σ' : Heap} {N id : Nat} {v : V} (X : Heap) (h : OpW P op G σ N id v σ') (hX : ∀ o x, X o = some x → o ≠ id ∧ σ o = none ∧ σ' o = none) : OpW P op G (joinH σ X) N id v (joinH σ' X) := by
  intro o ho ρ I a w hh hN hid hg K Q hK
  have sub : ∀ p x, σ p = some x → joinH σ X p = some x := fun p x hp => by
    cases hx : X p with
    | none => rw [joinH_none hx]; exact hp
    | some y => rw [(hX p y hx).2.1] at hp; cases hp
  have hσ : HeapOk σ ρ I w := hh.forget sub
  refine h o ho ρ I a w hσ hN hid hg K Q fun c ρ' I' w' st hh' hx hv => ?_
  have up : ∀ b, Owns σ ρ b → Owns (joinH σ X) ρ b := fun b ⟨p, x, h1, h2⟩ => ⟨p, x, sub p x h1, h2⟩
  have own' : ∀ b, Owns (joinH σ' X) ρ' b → Owns (joinH σ X) ρ b ∨ w.heap.size ≤ b := by
    rintro b ⟨p, x, h1, h2⟩
    cases hp : X p with
    | none =>
      rw [joinH_none hp] at h1
      exact (st.owned b ⟨p, x, h1, h2⟩).imp (up b) fun h => h
    | some y =>
      rw [hx p (hX p y hp).1] at h2
      exact .inl ⟨p, y, joinH_some hp, h2⟩
  have notIn : ∀ p y b, X p = some y → ρ p = some b → ¬ Owns σ ρ b := by
    rintro p y b hp hb ⟨q, z, h1, h2⟩
    have := hh.inj p q y z b (joinH_some hp) (sub q z h1) hb h2
    subst this
    rw [(hX p y hp).2.1] at h1; cases h1
  refine hK c ρ' I' w' ⟨⟨st.os, st.tape, st.output, st.size, fun b hb hn => st.kept b hb fun h => hn (up b h), st.sz, own', st.imm, fun b hb => (st.immNew b hb).imp (fun h => h) (Or.imp (up b) fun h => h)⟩, st.ids⟩ ⟨fun p x hp => ?_, fun p p' x x' b h1 h2 h3 h4 => ?_, hh'.base⟩ hx hv
  · cases hpX : X p with
    | none => rw [joinH_none hpX] at hp; exact hh'.own p x hp
    | some y =>
      rw [joinH_some hpX] at hp
      obtain rfl := Option.some.inj hp
      obtain ⟨b, c', e', k1, k2, k3, k4, k5⟩ := hh.own p y (joinH_some hpX)
      have hbs : b < w.heap.size := hh.owns_lt ⟨p, y, joinH_some hpX, k1⟩
      have hno := notIn p y b hpX k1
      refine ⟨b, c', e', by rw [hx p (hX p y hpX).1]; exact k1, ?_, k3, fun hb => ?_, fun i hi => ⟨(k5 i hi).1, fun j hj => st.rep hσ ((k5 i hi).2 j hj)⟩⟩
      · unfold Blk at k2 ⊢; rw [st.kept b hbs hno]; exact k2
      · rcases st.immNew b hb with h | h | h
        · exact k4 h
        · exact hno h
        · omega
  · have low : ∀ p y, X p = some y → ρ' p = some b → ρ p = some b ∧ b < w.heap.size ∧ ¬ Owns σ ρ b := fun p y hp hb => by
      rw [hx p (hX p y hp).1] at hb
      exact ⟨hb, hh.owns_lt ⟨p, y, joinH_some hp, hb⟩, notIn p y b hp hb⟩
    cases hpX : X p with
    | none =>
      rw [joinH_none hpX] at h1
      cases hpX' : X p' with
      | none => rw [joinH_none hpX'] at h2; exact hh'.inj p p' x x' b h1 h2 h3 h4
      | some y =>
        obtain ⟨l1, l2, l3⟩ := low p' y hpX' h4
        rcases st.owned b ⟨p, x, h1, h3⟩ with h | h
        · exact absurd h l3
        · omega
    | some y =>
      obtain ⟨l1, l2, l3⟩ := low p y hpX h3
      cases hpX' : X p' with
      | none =>
        rw [joinH_none hpX'] at h2
        rcases st.owned b ⟨p', x', h2, h4⟩ with h | h
        · exact absurd h l3
        · omega
      | some y' =>
        obtain ⟨m1, _, _⟩ := low p' y' hpX' h4
        exact hh.inj p p' y y' b (joinH_some hpX) (joinH_some hpX') l1 m1
theorem OpP.more [Glb] {op : Op} {G : Nat → V} {σ σ2 : Heap} {v : V} (h : OpP P op G σ v) (hs : ∀ o x, σ o = some x → σ2 o = some x) : OpP P op G σ2 v :=
  fun o ho ρ I a w hh hg K Q hK => h o ho ρ I a w (hh.forget hs) hg K Q hK
theorem if_cong {α : Type} {p q : Prop} [Decidable p] [Decidable q] {a b : α} (h1 : p → q) (h2 : q → p) : (if p then a else b) = if q then a else b := by
  by_cases hp : p
  · rw [if_pos hp, if_pos (h1 hp)]
  · rw [if_neg hp, if_neg fun h => hp (h2 h)]
def xH (n0 : Nat) (ops : Array Oper) (hs : Nat → Heap) (L : Nat) (listed : Array Bool) : Heap := fun o => if n0 ≤ o ∧ alB ops (o - n0) = true ∧ L ≤ o - n0 ∧ listed.getD (o - n0) false = true then hs (o - n0 + 1) o else none
def extH (n0 : Nat) (ops : Array Oper) (hs : Nat → Heap) (L : Nat) (listed : Array Bool) : Heap := joinH (hs L) (xH n0 ops hs L listed)
section
variable {hs : Nat → Heap} {L : Nat} {listed listed' : Array Bool}
theorem xH_some {o : Nat} {x : Own} (h : xH n0 ops hs L listed o = some x) : ∃ i, o = n0 + i ∧ alB ops i = true ∧ L ≤ i ∧ listed.getD i false = true ∧ hs (i + 1) o = some x := by
  unfold xH at h
  split at h
  · next h1 => exact ⟨o - n0, by omega, h1.2.1, h1.2.2.1, h1.2.2.2, h⟩
  · cases h
theorem xH_move {k : Nat} (hk : alB ops k = false) (hl : ∀ m, m ≠ k → listed'.getD m false = listed.getD m false) : xH n0 ops hs (k + 1) listed' = xH n0 ops hs k listed := by
  funext o
  unfold xH
  by_cases h : o - n0 = k
  · rw [if_neg (by rw [h, hk]; simp), if_neg (by rw [h, hk]; simp)]
  · rw [hl _ h]
    exact if_cong (fun q => ⟨q.1, q.2.1, by omega, q.2.2.2⟩) fun q => ⟨q.1, q.2.1, by omega, q.2.2.2⟩
theorem xH_same {i : Nat} (hi : alB ops i = false) (hl : ∀ m, m ≠ i → listed'.getD m false = listed.getD m false) : xH n0 ops hs L listed' = xH n0 ops hs L listed := by
  funext o
  unfold xH
  by_cases h : o - n0 = i
  · rw [if_neg (by rw [h, hi]; simp), if_neg (by rw [h, hi]; simp)]
  · rw [hl _ h]
theorem ext_step {k : Nat} (h : (alB ops k = false ∧ hs (k + 1) = hs k) ∨ (alB ops k = true ∧ listed.getD k false = true ∧ ∃ z, hs (k + 1) = upd (hs k) (n0 + k) (some z))) : extH n0 ops hs k listed = extH n0 ops hs (k + 1) listed := by
  rcases h with ⟨h1, h2⟩ | ⟨h1, h2, z, h3⟩
  · unfold extH; rw [xH_move h1 fun _ _ => rfl, h2]
  · funext o
    unfold extH
    by_cases ho : o = n0 + k
    · subst ho
      have x1 : xH n0 ops hs k listed (n0 + k) = some z := by
        unfold xH
        rw [if_pos ⟨by omega, by rw [Nat.add_sub_cancel_left]; exact h1, by omega, by rw [Nat.add_sub_cancel_left]; exact h2⟩, Nat.add_sub_cancel_left, h3, upd_same]
      have x2 : xH n0 ops hs (k + 1) listed (n0 + k) = none := by
        unfold xH; rw [if_neg (by omega)]
      rw [joinH_some x1, joinH_none x2, h3, upd_same]
    · have x1 : xH n0 ops hs (k + 1) listed o = xH n0 ops hs k listed o := by
        unfold xH
        by_cases hn : n0 ≤ o
        · exact if_cong (fun q => ⟨q.1, q.2.1, by omega, q.2.2.2⟩) fun q => ⟨q.1, q.2.1, by omega, q.2.2.2⟩
        · rw [if_neg (fun h => hn h.1), if_neg (fun h => hn h.1)]
      unfold joinH
      rw [x1, h3, upd_ne _ _ ho]
theorem ext_range : ∀ d, (∀ k, L ≤ k → k < L + d → (alB ops k = false ∧ hs (k + 1) = hs k) ∨ (alB ops k = true ∧ listed.getD k false = true ∧ ∃ z, hs (k + 1) = upd (hs k) (n0 + k) (some z))) → extH n0 ops hs L listed = extH n0 ops hs (L + d) listed
  | 0, _ => rfl
  | d + 1, h => by
    rw [ext_range d fun k h1 h2 => h k h1 (by omega), ext_step (h (L + d) (by omega) (by omega))]
    rfl
theorem ext_new {i : Nat} {z : Own} (hi : alB ops i = true) (hL : L ≤ i) (hl : ∀ m, m ≠ i → listed'.getD m false = listed.getD m false) (hli : listed'.getD i false = true) (hz : hs (i + 1) = upd (hs i) (n0 + i) (some z)) : extH n0 ops hs L listed' = upd (extH n0 ops hs L listed) (n0 + i) (some z) := by
  funext o
  unfold extH
  by_cases ho : o = n0 + i
  · subst ho
    have x1 : xH n0 ops hs L listed' (n0 + i) = some z := by
      unfold xH
      rw [if_pos ⟨by omega, by rw [Nat.add_sub_cancel_left]; exact hi, by omega, by rw [Nat.add_sub_cancel_left]; exact hli⟩, Nat.add_sub_cancel_left, hz, upd_same]
    rw [joinH_some x1, upd_same]
  · rw [upd_ne _ _ ho]
    have x1 : xH n0 ops hs L listed' o = xH n0 ops hs L listed o := by
      unfold xH
      by_cases hn : n0 ≤ o
      · rw [hl _ (by omega)]
      · rw [if_neg (fun h => hn h.1), if_neg (fun h => hn h.1)]
    unfold joinH
    rw [x1]
end
structure Inv [Glb] (N n0 M : Nat) (ops : Array Oper) (fr0 : Nat → V) (vals : Nat → V) (hs : Nat → Heap) (σ0 : Heap) (ρ0 : Nat → Option Nat) (I0 : Nat → Prop) (w0 : World)
    (listed : Array Bool) (ρ : Nat → Option Nat) (I : Nat → Prop) (a : Act) (w : World) : Prop where
  down : Down ops listed
  lsize : listed.size = ops.size
  heap : ∃ L, L ≤ ops.size ∧ HeapOk (extH n0 ops hs L listed) ρ I w ∧ Step σ0 ρ0 I0 w0 (extH n0 ops hs L listed) ρ I w ∧ (∀ (i : Nat) (o : Oper), ops[i]? = some o → isW o.op = true → alB ops i = false → (listed.getD i false = true ↔ i < L)) ∧ ∀ i, alB ops i = true → i < L → listed.getD i false = true
  freshM : ∀ m, M ≤ m → ρ m = none
  fresh : ∀ i, i < ops.size → listed.getD i false = false → ρ (n0 + i) = none
  set : ∀ j t, dstAt ops j = some t → listed.getD j false = true → RepV ρ I w (vals j) (a.eval (.tmp t))
  unset : ∀ t, (∀ j, dstAt ops j = some t → listed.getD j false = false) → RepV ρ I w (fr0 t) (a.eval (.tmp t))
  defers : a.defers = []
  tsize : a.tmps.size = N
  low : ∀ o, o < n0 → ρ o = ρ0 o
theorem frames_at {vals : Nat → V} {G : Nat → Nat → V} (hc : Chk N ops) (hG : ∀ k o, ops[k]? = some o → G (k + 1) = putF (G k) o.dst (vals k)) :
    ∀ i, i ≤ ops.size → (∀ t j, dstAt ops j = some t → j < i → G i t = vals j) ∧ (∀ t, (∀ j, dstAt ops j = some t → i ≤ j) → G i t = G 0 t)
  | 0, _ => ⟨fun t j _ h => absurd h (Nat.not_lt_zero j), fun t _ => rfl⟩
  | i + 1, hi => by
    obtain ⟨ih1, ih2⟩ := frames_at hc hG i (by omega)
    have ho : ops[i]? = some ops[i] := Array.getElem?_eq_getElem (by omega)
    rw [hG i _ ho]
    refine ⟨fun t j hj hlt => ?_, fun t ht => ?_⟩
    · by_cases hij : j = i
      · subst hij
        have : ops[j].dst = some t := by simpa [dstAt, ho] using hj
        rw [this]; exact upd_same _ _ _
      · have hne := hc.one i _ j t ho (Ne.symm hij) hj
        cases hd : ops[i].dst with
        | none => exact ih1 t j hj (by omega)
        | some s =>
          have : t ≠ s := fun e => hne (by rw [hd, e])
          exact (upd_ne _ _ this).trans (ih1 t j hj (by omega))
    · cases hd : ops[i].dst with
      | none => exact ih2 t fun j hj => by have := ht j hj; omega
      | some s =>
        have : t ≠ s := fun e => by have := ht i (by simp [dstAt, ho, hd, e]); omega
        exact (upd_ne _ _ this).trans (ih2 t fun j hj => by have := ht j hj; omega)
theorem ready_spec {listed : Array Bool} {i : Nat} (h : i ∈ Region.ready .any ops listed) (hs : listed.size = ops.size) :
    ∃ o, ops[i]? = some o ∧ listed.getD i false = false ∧ ∀ e ∈ o.after, Region.binds .any e = true → listed.getD e.on false = true := by
  unfold Region.ready at h
  rw [List.mem_filter] at h
  obtain ⟨h1, h2⟩ := h
  have hi : i < ops.size := by simpa using h1
  have ho : ops[i]? = some ops[i] := Array.getElem?_eq_getElem hi
  simp only [ho, Option.map_some, Option.getD_some, Bool.and_eq_true, Bool.not_eq_true', Array.all_eq_true_iff_forall_mem, Bool.or_eq_true] at h2
  refine ⟨_, ho, ?_, fun e he hb => ?_⟩
  · have := h2.1
    rw [Array.getD_eq_getD_getElem?, Array.getElem?_eq_getElem (hs ▸ hi : i < listed.size)] at this ⊢
    exact this
  · have := h2.2 e he
    simpa [hb] using this
theorem ready_least {listed : Array Bool} (hc : Chk N ops) (hs : listed.size = ops.size) (h : Region.ready .any ops listed = []) : ∀ i, i < ops.size → listed.getD i false = true := by
  intro i
  induction i using Nat.strongRecOn with
  | _ i ih =>
    intro hi
    have ho : ops[i]? = some ops[i] := Array.getElem?_eq_getElem hi
    cases hl : listed.getD i false with
    | true => rfl
    | false =>
      exfalso
      have : i ∈ Region.ready .any ops listed := by
        unfold Region.ready
        rw [List.mem_filter]
        refine ⟨by simpa using hi, ?_⟩
        simp only [ho, Option.map_some, Option.getD_some, Bool.and_eq_true, Bool.not_eq_true', Array.all_eq_true_iff_forall_mem, Bool.or_eq_true]
        refine ⟨?_, fun e he => ?_⟩
        · rw [Array.getD_eq_getD_getElem?, Array.getElem?_eq_getElem (hs ▸ hi : i < listed.size)] at hl ⊢
          exact hl
        · cases hb : Region.binds .any e with
          | false => exact .inl rfl
          | true => have := hc.edge i _ ho e he hb; exact .inr (ih e.on this (by omega))
      rw [h] at this; cases this
theorem getD_set {listed : Array Bool} {i j : Nat} (hi : i < listed.size) : (listed.setIfInBounds i true).getD j false = if j = i then true else listed.getD j false := by
  rw [Array.getD_eq_getD_getElem?, Array.getD_eq_getD_getElem?, Array.getElem?_setIfInBounds]
  by_cases h : j = i
  · subst h; simp [hi]
  · simp [h, Ne.symm h]
set_option maxHeartbeats 4000000 in
theorem ops_any [Glb] {Q : Exit → Act → World → Prop} {σ0 : Heap} {ρ0 : Nat → Option Nat} {I0 : Nat → Prop} {w0 : World} (hM : M = n0 + ops.size) (hc : Chk N ops) {fr0 : Nat → V} {vals : Nat → V} {hs : Nat → Heap} {G : Nat → Nat → V}
    (h0 : ∀ i, hs 0 (n0 + i) = none) (hx : ∀ k o, ops[k]? = some o → PlanX P ops n0 M k o (G k) (hs k) (vals k) (hs (k + 1))) (hG0 : G 0 = fr0) (hplan : ∀ k o, ops[k]? = some o → Planned P true n0 M ops k o (G k) (hs k) (vals k) (hs (k + 1)) ∧ G (k + 1) = putF (G k) o.dst (vals k))
    (hQ : ∀ ρ I a w, HeapOk (hs ops.size) ρ I w → (∀ o, M ≤ o → ρ o = none) → (∀ t, RepV ρ I w (G ops.size t) (a.eval (.tmp t))) → a.defers = [] → a.tmps.size = N → Step σ0 ρ0 I0 w0 (hs ops.size) ρ I w → (∀ o, o < n0 → ρ o = ρ0 o) → Q .normal a w) :
    ∀ (fuel : Nat) (listed : Array Bool) (ρ : Nat → Option Nat) (I : Nat → Prop) (a : Act) (w : World), Inv N n0 M ops fr0 vals hs σ0 ρ0 I0 w0 listed ρ I a w → ((List.range ops.size).filter fun i => !listed.getD i false).length ≤ fuel →
      wpAny P .any ops Q fuel listed a w := by
  have hconst : ∀ k, k < ops.size → (∀ o, ops[k]? = some o → isW o.op = false) → hs (k + 1) = hs k := by
    intro k hk hw
    have ho : ops[k]? = some ops[k] := Array.getElem?_eq_getElem hk
    obtain ⟨h1, _⟩ := hplan k _ ho
    rcases h1 with h1 | h1
    · exact (h1.2.2 rfl (hw _ ho)).1
    · exact h1.2.2
  have hfr := frames_at hc (fun k o ho => (hplan k o ho).2)
  have halp : ∀ k, alB ops k = true → ∃ k', vals k = .ptr (n0 + k) k' 0 0 := fun k hk => by
    obtain ⟨hsi, o, ho, hg, ha⟩ := alB_ex hk
    exact ((hx k o ho hsi).1 hg ha).1
  have halz : ∀ k, alB ops k = true → ∃ o, ops[k]? = some o ∧ o.guard = none ∧ isW o.op = true ∧ ∃ z, hs (k + 1) = upd (hs k) (n0 + k) (some z) ∧ ∀ (G2 : Nat → V) (σ2 : Heap), OpW P o.op G2 σ2 M (n0 + k) (vals k) (upd σ2 (n0 + k) (some z)) := fun k hk => by
    obtain ⟨hsi, o, ho, hg, ha⟩ := alB_ex hk
    refine ⟨o, ho, hg, ?_, ((hx k o ho hsi).1 hg ha).2⟩
    obtain ⟨t, ht⟩ := isAl_ex ha
    rw [ht]; rfl
  have hnone : simpB ops = true → ∀ k, k ≤ ops.size → ∀ i, k ≤ i → hs k (n0 + i) = none := fun hsi k => by
    induction k with
    | zero => exact fun _ i _ => h0 i
    | succ k ih =>
      intro hk i hi
      exact (hx k _ (Array.getElem?_eq_getElem (by omega : k < ops.size)) hsi).2.1 _ (by omega) (ih (by omega) i (by omega))
  have hlow : phB ops = true → ∀ p x, hs 0 p = some x → ∀ k, k ≤ ops.size → hs k p = some x := fun hph p x hp k => by
    have hpn : ∀ m, p ≠ n0 + m := fun m e => by rw [e, h0] at hp; cases hp
    induction k with
    | zero => exact fun _ => hp
    | succ k ih =>
      intro hk
      have hpk := ih (by omega)
      have ho : ops[k]? = some ops[k] := Array.getElem?_eq_getElem (by omega)
      cases hw : isW ops[k].op with
      | false => rw [hconst k (by omega) fun o ho' => by rw [ho] at ho'; cases ho'; exact hw]; exact hpk
      | true =>
        rcases (phB_ex hph ho hw).2 with ha | ha
        · obtain ⟨_, _, _, _, z, hz, _⟩ := halz k ha
          rw [hz, upd_ne _ _ (hpn k)]; exact hpk
        · obtain ⟨t, s, y, a, e, hak, haa, hds⟩ := tgtB_ex ha
          rcases (hx k _ ho (phB_simp hph)).2.2 t _ y e with h | ⟨q, k1, k2, k3, w, h1, h2⟩
          · rw [h]; exact hpk
          · obtain ⟨k', hv⟩ := halp a haa
            have hG : G k s = vals a := (hfr k (by omega)).1 s a hds hak
            have h1 : G k s = .ptr q k1 k2 k3 := h1
            rw [hG, hv] at h1
            cases h1
            rw [h2, upd_ne _ _ (hpn a)]; exact hpk
  have ext_end : ∀ listed, extH n0 ops hs ops.size listed = hs ops.size := fun listed => by
    funext o
    unfold extH
    refine joinH_none ?_
    unfold xH
    refine if_neg fun h => ?_
    have := alB_lt h.2.1
    omega
  have done : ∀ (listed : Array Bool) (ρ : Nat → Option Nat) (I : Nat → Prop) (a : Act) (w : World), Inv N n0 M ops fr0 vals hs σ0 ρ0 I0 w0 listed ρ I a w → (∀ i, i < ops.size → listed.getD i false = true) → Q .normal a w := by
    intro listed ρ I a w inv hall
    obtain ⟨L, hL, h1, h2, h3, h3a⟩ := inv.heap
    have hLs : hs ops.size = extH n0 ops hs L listed := by
      have := ext_range (n0 := n0) (ops := ops) (hs := hs) (L := L) (listed := listed) (ops.size - L) fun k hk1 hk2 => by
        cases hal : alB ops k with
        | true =>
          obtain ⟨o, _, _, _, z, hz, _⟩ := halz k hal
          exact .inr ⟨rfl, hall k (by omega), z, hz⟩
        | false =>
          refine .inl ⟨rfl, hconst k (by omega) fun o ho => ?_⟩
          cases hw : isW o.op with
          | false => rfl
          | true => have := (h3 k o ho hw hal).1 (hall k (by omega)); omega
      rw [this, show L + (ops.size - L) = ops.size by omega, ext_end]
    refine hQ ρ I a w (hLs ▸ h1) inv.freshM (fun t => ?_) inv.defers inv.tsize (hLs ▸ h2) inv.low
    by_cases ht : ∃ j, dstAt ops j = some t
    · obtain ⟨j, hj⟩ := ht
      have hjs : j < ops.size := by
        rcases Nat.lt_or_ge j ops.size with h | h
        · exact h
        · simp [dstAt, Array.getElem?_eq_none h] at hj
      rw [(hfr ops.size (Nat.le_refl _)).1 t j hj hjs]
      exact inv.set j t hj (hall j hjs)
    · rw [(hfr ops.size (Nat.le_refl _)).2 t (fun j hj => absurd ⟨j, hj⟩ ht), hG0]
      exact inv.unset t fun j hj => absurd ⟨j, hj⟩ ht
  have step : ∀ (listed : Array Bool) (ρ : Nat → Option Nat) (I : Nat → Prop) (a : Act) (w : World), Inv N n0 M ops fr0 vals hs σ0 ρ0 I0 w0 listed ρ I a w → ∀ i ∈ Region.ready .any ops listed, ∀ (K : Act → World → Prop),
      (∀ ρ' I' a' w', Inv N n0 M ops fr0 vals hs σ0 ρ0 I0 w0 (listed.setIfInBounds i true) ρ' I' a' w' → K a' w') → wpOp P ops Q i K a w := by
    intro listed ρ I a w inv i hi K hK
    obtain ⟨o, ho, hni, hready⟩ := ready_spec hi inv.lsize
    have hilt : i < ops.size := (Array.getElem?_eq_some_iff.1 ho).1
    have hil : i < listed.size := by rw [inv.lsize]; exact hilt
    have before : ∀ j, ancB ops ops.size i j = true → listed.getD j false = true := fun j h => anc_listed inv.down _ i j h fun o' ho' => by rw [ho] at ho'; cases ho'; exact hready
    have behind : ∀ j, ancB ops ops.size j i = true → listed.getD j false = false := fun j h => by
      cases hl : listed.getD j false with
      | false => rfl
      | true => rw [anc_listed inv.down _ j i h fun o' ho' => inv.down j o' ho' hl] at hni; cases hni
    have dlt : ∀ j t, dstAt ops j = some t → j < ops.size := fun j t hj => by
      rcases Nat.lt_or_ge j ops.size with h | h
      · exact h
      · simp [dstAt, Array.getElem?_eq_none h] at hj
    -- what the operation looks at is what is planned
    have look : ∀ t, t ∈ o.looksAt ops → RepV ρ I w (G i t) (a.eval (.tmp t)) := by
      intro t ht
      by_cases hw : ∃ j, j ≠ i ∧ dstAt ops j = some t
      · obtain ⟨j, hji, hj⟩ := hw
        have := hc.look i o j t ho (Ne.symm hji) hj ht
        simp only [orderedB, Bool.or_eq_true, Bool.and_eq_true, decide_eq_true_eq] at this
        rcases this with ⟨h1, h2⟩ | ⟨h1, h2⟩
        · rw [(hfr i (by omega)).1 t j hj h1]; exact inv.set j t hj (before j h2)
        · have huniq : ∀ j', dstAt ops j' = some t → j' = j := fun j' hj' => by
            rcases Nat.decEq j' j with h | h
            · exfalso
              have hoj : ops[j]? = some (ops[j]'(dlt j t hj)) := Array.getElem?_eq_getElem (dlt j t hj)
              exact hc.one j _ j' t hoj (Ne.symm h) hj' (by simpa [dstAt, hoj] using hj)
            · exact h
          rw [(hfr i (by omega)).2 t (fun j' hj' => by rw [huniq j' hj']; omega), hG0]
          exact inv.unset t fun j' hj' => by rw [huniq j' hj']; exact behind j h2
      · have hnot : ∀ j, dstAt ops j = some t → j = i := fun j hj => by
          rcases Nat.decEq j i with h | h
          · exact absurd ⟨j, h, hj⟩ hw
          · exact h
        rw [(hfr i (by omega)).2 t (fun j hj => by rw [hnot j hj]; omega), hG0]
        exact inv.unset t fun j hj => by rw [hnot j hj]; exact hni
    have hops : OkOn (G i) ρ I w a o.op.operands := fun t ht => look t (by
      unfold Oper.looksAt
      refine List.mem_append.2 (.inl (List.mem_filterMap.2 ⟨.tmp t, by simpa using ht, rfl⟩)))
    obtain ⟨L, hL, h1, h2, h3, h3a⟩ := inv.heap
    -- the heap that is planned, where the operation looks at it
    have hheap : alB ops i = false → loB ops ≤ i → slotOnly o.op = false ∨ isW o.op = true → extH n0 ops hs L listed = extH n0 ops hs i listed := by
      intro hai hloi hor
      have hno : slotOnly o.op = false := by
        rcases hor with h | h
        · exact h
        · exact isW_slot h
      have hord : ∀ j oj, ops[j]? = some oj → j ≠ i → isW oj.op = true → alB ops j = false → (j < i → j < L) ∧ (i < j → L ≤ j) := by
        intro j oj hj hji hw haj
        have := hc.heap j oj i o hj ho hji hw hno haj hai hloi
        simp only [orderedB, Bool.or_eq_true, Bool.and_eq_true, decide_eq_true_eq] at this
        have hjl := h3 j oj hj hw haj
        rcases this with ⟨k1, k2⟩ | ⟨k1, k2⟩
        · refine ⟨fun h => by omega, fun _ => ?_⟩
          have := behind j k2
          rw [this] at hjl
          have : ¬ j < L := fun h => by simpa using hjl.2 h
          omega
        · exact ⟨fun _ => hjl.1 (before j k2), fun h => by omega⟩
      have hal : ∀ j, alB ops j = true → j < i → listed.getD j false = true := fun j haj hji => by
        obtain ⟨oj, hj, _, hw, _⟩ := halz j haj
        exact before j (hc.heapA j oj i o hj ho (by omega) hw hno haj hai hloi hji)
      rcases Nat.le_total L i with hle | hle
      · have := ext_range (n0 := n0) (ops := ops) (hs := hs) (L := L) (listed := listed) (i - L) fun k hk1 hk2 => by
          cases hak : alB ops k with
          | true =>
            obtain ⟨_, _, _, _, z, hz, _⟩ := halz k hak
            exact .inr ⟨rfl, hal k hak (by omega), z, hz⟩
          | false =>
            refine .inl ⟨rfl, hconst k (by omega) fun oj hj => ?_⟩
            cases hw : isW oj.op with
            | false => rfl
            | true => have := (hord k oj hj (by omega) hw hak).1 (by omega); omega
        rw [this, show L + (i - L) = i by omega]
      · -- between i and L no other writer stands; i itself is not listed
        have := ext_range (n0 := n0) (ops := ops) (hs := hs) (L := i) (listed := listed) (L - i) fun k hk1 hk2 => by
          cases hak : alB ops k with
          | true =>
            obtain ⟨_, _, _, _, z, hz, _⟩ := halz k hak
            exact .inr ⟨rfl, h3a k hak (by omega), z, hz⟩
          | false =>
            refine .inl ⟨rfl, hconst k (by omega) fun oj hj => ?_⟩
            cases hw : isW oj.op with
            | false => rfl
            | true =>
              rcases Nat.decEq k i with h | h
              · have := (hord k oj hj h hw hak).2 (by omega); omega
              · subst h
                have := (h3 k oj hj hw hak).2 (by omega)
                rw [hni] at this; cases this
        rw [this, show i + (L - i) = L by omega]
    have hset : ∀ m, m ≠ i → (listed.setIfInBounds i true).getD m false = listed.getD m false := fun m hm => by rw [getD_set hil, if_neg hm]
    have hseti : (listed.setIfInBounds i true).getD i false = true := by rw [getD_set hil, if_pos rfl]
    have hL' : alB ops i = false → isW o.op = true → extH n0 ops hs L listed = extH n0 ops hs i listed ∧ (∀ (j : Nat) (oj : Oper), ops[j]? = some oj → isW oj.op = true → alB ops j = false → ((listed.setIfInBounds i true).getD j false = true ↔ j < i + 1)) ∧ ∀ j, alB ops j = true → j < i + 1 → (listed.setIfInBounds i true).getD j false = true := by
      intro hai hw
      have hno : slotOnly o.op = false := isW_slot hw
      have hloi := lo_W ho hw
      refine ⟨hheap hai hloi (.inr hw), fun j oj hj hwj haj => ?_, fun j haj hji => ?_⟩
      · rw [getD_set hil]
        rcases Nat.decEq j i with h | h
        · rw [if_neg h]
          have := hc.heap j oj i o hj ho h hwj hno haj hai hloi
          simp only [orderedB, Bool.or_eq_true, Bool.and_eq_true, decide_eq_true_eq] at this
          rcases this with ⟨k1, k2⟩ | ⟨k1, k2⟩
          · rw [behind j k2]; exact ⟨(fun h => by cases h), fun h => by omega⟩
          · rw [before j k2]; exact ⟨fun _ => by omega, fun _ => rfl⟩
        · rw [if_pos h]; exact ⟨fun _ => by omega, fun _ => rfl⟩
      · have hji' : j ≠ i := fun e => by rw [e, hai] at haj; cases haj
        obtain ⟨oj, hj, _, hwj, _⟩ := halz j haj
        rw [hset j hji']
        exact before j (hc.heapA j oj i o hj ho hji' hwj hno haj hai hloi (by omega))
    -- a new place in the frame
    have next : ∀ (σ' : Heap) (v : V) (c : Value) (ρ' : Nat → Option Nat) (I' : Nat → Prop) (w' : World), v = vals i → Step (extH n0 ops hs L listed) ρ I w σ' ρ' I' w' → HeapOk σ' ρ' I' w' → (∀ x, x ≠ n0 + i → ρ' x = ρ x) → RepV ρ' I' w' v c →
        (∃ L', L' ≤ ops.size ∧ σ' = extH n0 ops hs L' (listed.setIfInBounds i true) ∧ (∀ (j : Nat) (oj : Oper), ops[j]? = some oj → isW oj.op = true → alB ops j = false → ((listed.setIfInBounds i true).getD j false = true ↔ j < L')) ∧ ∀ j, alB ops j = true → j < L' → (listed.setIfInBounds i true).getD j false = true) → K (a.put o.dst c) w' := by
      rintro σ' v c ρ' I' w' rfl hs' hh' hid hv ⟨L', hle', rfl, hw'⟩
      have hdo := hc.dst i o ho
      refine hK ρ' I' _ w' ⟨?_, by simpa using inv.lsize, ⟨L', hle', hh', h2.trans hs', hw'⟩, fun m hm => by rw [hid m (by omega)]; exact inv.freshM m hm, fun j hj hjl => ?_, fun j t hj hjl => ?_, fun t ht => ?_, put_defers.trans inv.defers, put_size.trans inv.tsize, fun m hm => (hid m (by omega)).trans (inv.low m hm)⟩
      · intro j oj hj hjl e he hb
        rw [getD_set hil] at hjl ⊢
        split
        · rfl
        · rcases Nat.decEq j i with h | h
          · rw [if_neg h] at hjl; exact inv.down j oj hj hjl e he hb
          · subst h; rw [ho] at hj; cases hj; exact hready e he hb
      · rw [getD_set hil] at hjl
        split at hjl
        · cases hjl
        · next h => rw [hid _ (by omega)]; exact inv.fresh j hj hjl
      · rw [getD_set hil] at hjl
        rcases Nat.decEq j i with h | h
        · rw [if_neg h] at hjl
          have hne := hc.one i o j t ho (Ne.symm h) hj
          have := frame_put (fr := fun s => if s = t then vals j else .any) (fun s => by
            by_cases hst : s = t
            · subst hst; rw [if_pos rfl]; exact hs'.rep h1 (inv.set j s hj hjl)
            · rw [if_neg hst]; exact .any _) inv.tsize hdo hv t
          cases hd : o.dst with
          | none => rw [hd] at this; simpa [putF] using this
          | some s =>
            have hts : t ≠ s := fun e => hne (by rw [hd, e])
            rw [hd] at this
            simpa [putF, upd_ne _ _ hts] using this
        · subst h
          have hd : o.dst = some t := by simpa [dstAt, ho] using hj
          have := frame_put (fr := fun _ => .any) (fun s => .any _) inv.tsize hdo hv t
          rw [hd] at this ⊢
          simpa [putF, upd_same] using this
      · have hti : o.dst ≠ some t := fun e => by
          have := ht i (by simp [dstAt, ho, e])
          rw [getD_set hil, if_pos rfl] at this; cases this
        have := frame_put (fr := fun s => if s = t then fr0 t else .any) (fun s => by
          by_cases hst : s = t
          · subst hst; rw [if_pos rfl]
            refine hs'.rep h1 (inv.unset s fun j hj => ?_)
            have hj' := ht j hj
            rw [getD_set hil] at hj'
            split at hj'
            · cases hj'
            · exact hj'
          · rw [if_neg hst]; exact .any _) inv.tsize hdo hv t
        cases hd : o.dst with
        | none => rw [hd] at this; simpa [putF] using this
        | some s =>
          have hts : t ≠ s := fun e => hti (by rw [hd, e])
          rw [hd] at this
          simpa [putF, upd_ne _ _ hts] using this
    have hkeepL : isW o.op = false ∨ alB ops i = true → (∀ (j : Nat) (oj : Oper), ops[j]? = some oj → isW oj.op = true → alB ops j = false → ((listed.setIfInBounds i true).getD j false = true ↔ j < L)) ∧ ∀ j, alB ops j = true → j < L → (listed.setIfInBounds i true).getD j false = true := fun hw => by
      refine ⟨fun j oj hj hwj haj => ?_, fun j haj hjl => ?_⟩
      · have hji : j ≠ i := fun e => by
          subst e; rw [ho] at hj; cases hj
          rcases hw with hw | hw
          · rw [hw] at hwj; cases hwj
          · rw [hw] at haj; cases haj
        rw [hset j hji]; exact h3 j oj hj hwj haj
      · rw [getD_set hil]
        split
        · rfl
        · exact h3a j haj hjl
    have hnW : isW o.op = false → alB ops i = false := fun hw => by
      cases ha : alB ops i with
      | false => rfl
      | true =>
        obtain ⟨o', ho', _, hw', _⟩ := halz i ha
        rw [ho] at ho'; cases ho'; rw [hw] at hw'; cases hw'
    have stay : isW o.op = false → extH n0 ops hs L listed = extH n0 ops hs L (listed.setIfInBounds i true) := fun hw => by
      unfold extH; rw [xH_same (hnW hw) hset]
    unfold wpOp
    simp only [ho]
    obtain ⟨hp, _⟩ := hplan i o ho
    have hguard : ∀ j want t b, o.guard = some (j, want) → dstAt ops j = some t → G i t = .d (.val (.bool b)) → Region.wanted o (yielded ops a.tmps) = (b == want) := by
      intro j want t b hg ht hb
      have hlook : t ∈ o.looksAt ops := by
        unfold Oper.looksAt
        refine List.mem_append.2 (.inr ?_)
        simp only [hg]
        unfold dstAt at ht
        simp [ht]
      have hoj : ops[j]? = some (ops[j]'(dlt j t ht)) := Array.getElem?_eq_getElem (dlt j t ht)
      have hdj := hc.dst j _ hoj
      have : (ops[j]'(dlt j t ht)).dst = some t := by simpa [dstAt, hoj] using ht
      rw [this] at hdj
      exact wanted_true inv.tsize hg ht (by simpa [dstOk] using hdj) (hb ▸ look t hlook)
    have hoff : ∀ j want t, o.guard = some (j, want) → dstAt ops j = some t → offV (G i t) want → Region.wanted o (yielded ops a.tmps) = false := by
      intro j want t hg ht hb
      have hlook : t ∈ o.looksAt ops := by
        unfold Oper.looksAt
        refine List.mem_append.2 (.inr ?_)
        simp only [hg]
        unfold dstAt at ht
        simp [ht]
      have hoj : ops[j]? = some (ops[j]'(dlt j t ht)) := Array.getElem?_eq_getElem (dlt j t ht)
      have hdj := hc.dst j _ hoj
      have : (ops[j]'(dlt j t ht)).dst = some t := by simpa [dstAt, hoj] using ht
      rw [this] at hdj
      exact wanted_off inv.tsize hg ht (by simpa [dstOk] using hdj) (look t hlook) hb
    rcases hp with ⟨hw, hopw, hopp⟩ | ⟨⟨j, want, t, hg, ht, hbw⟩, hv, hσ⟩
    · have hwant : Region.wanted o (yielded ops a.tmps) = true := by
        rcases hw with hw | ⟨j, want, t, hg, ht, hb⟩
        · simp [Region.wanted, hw]
        · rw [hguard j want t want hg ht hb]; simp
      rw [if_pos hwant]
      refine .inl ?_
      cases hai : alB ops i with
      | true =>
        obtain ⟨o', ho', _, _, z, hz, hop⟩ := halz i hai
        rw [ho] at ho'; cases ho'
        have hLi : L ≤ i := by
          rcases Nat.lt_or_ge i L with h | h
          · rw [h3a i hai h] at hni; cases hni
          · exact h
        refine hop (G i) (extH n0 ops hs L listed) o rfl ρ I a w h1 inv.freshM (inv.fresh i hilt hni) hops K Q fun c ρ' I' w' hs' hh' hid hv' => next _ _ c ρ' I' w' rfl hs' hh' hid hv' ⟨L, hL, (ext_new hai hLi hset hseti hz).symm, hkeepL (.inr hai)⟩
      | false =>
      cases hisw : isW o.op with
      | true =>
        obtain ⟨e1, e2⟩ := hL' hai hisw
        have hfrm : OpW P o.op (G i) (extH n0 ops hs i listed) M (n0 + i) (vals i) (extH n0 ops hs (i + 1) (listed.setIfInBounds i true)) := by
          have := hopw.frame (xH n0 ops hs i listed) fun p x hp => by
            obtain ⟨m, rfl, hm, hmi, hml, _⟩ := xH_some hp
            have hne : m ≠ i := fun e => by rw [e, hai] at hm; cases hm
            have hsi := (alB_ex hm).1
            exact ⟨by omega, hnone hsi i (by omega) m hmi, hnone hsi (i + 1) hilt m (by omega)⟩
          unfold extH
          rw [xH_move hai hset]
          exact this
        rw [← e1] at hfrm
        exact hfrm o rfl ρ I a w h1 inv.freshM (inv.fresh i hilt hni) hops K Q fun c ρ' I' w' hs' hh' hid hv' => next _ _ c ρ' I' w' rfl hs' hh' hid hv' ⟨i + 1, hilt, rfl, e2⟩
      | false =>
        obtain ⟨e1, e2, e3⟩ := hopp rfl hisw
        have hP : OpP P o.op (G i) (extH n0 ops hs L listed) (vals i) := by
          cases hso : slotOnly o.op with
          | true => exact e3 hso _
          | false =>
            rcases Nat.lt_or_ge i (loB ops) with hlt | hge
            · obtain ⟨hph, hia⟩ := lo_ph hlt
              have e0 : ∀ k, k ≤ i → hs k = hs 0 := fun k => by
                induction k with
                | zero => exact fun _ => rfl
                | succ k ih =>
                  intro hk
                  rw [hconst k (by omega) fun o' ho' => ?_]
                  · exact ih (by omega)
                  · cases hw' : isW o'.op with
                    | false => rfl
                    | true => have := (phB_ex hph ho' hw').1; omega
              rw [e0 i (Nat.le_refl _)] at e2
              refine e2.more fun p x hp => ?_
              unfold extH
              cases hxp : xH n0 ops hs L listed p with
              | none => rw [joinH_none hxp]; exact hlow hph p x hp L hL
              | some y =>
                obtain ⟨m, rfl, _⟩ := xH_some hxp
                rw [h0] at hp; cases hp
            rw [hheap hai hge (.inl hso)]
            refine e2.more fun p x hp => ?_
            unfold extH
            cases hxp : xH n0 ops hs i listed p with
            | none => rw [joinH_none hxp]; exact hp
            | some y =>
              obtain ⟨m, rfl, hm, hmi, _⟩ := xH_some hxp
              rw [hnone (alB_ex hm).1 i (by omega) m hmi] at hp; cases hp
        exact hP o rfl ρ I a w h1 hops K Q fun c I' w' p hv' => next (extH n0 ops hs L listed) _ c ρ I' w' rfl p.step (h1.pure p) (fun _ _ => rfl) hv' ⟨L, hL, stay hisw, hkeepL (.inl hisw)⟩
    · have hwant : Region.wanted o (yielded ops a.tmps) = false := hoff j want t hg ht hbw
      rw [if_neg (by simp [hwant])]
      have hai : alB ops i = false := by
        cases ha : alB ops i with
        | false => rfl
        | true =>
          obtain ⟨_, o', ho', hg', _⟩ := alB_ex ha
          rw [ho] at ho'; cases ho'; rw [hg] at hg'; cases hg'
      cases hisw : isW o.op with
      | true =>
        obtain ⟨e1, e2⟩ := hL' hai hisw
        have e3 : extH n0 ops hs L listed = extH n0 ops hs (i + 1) (listed.setIfInBounds i true) := by
          rw [e1]; unfold extH; rw [xH_move hai hset, hσ]
        exact next (extH n0 ops hs L listed) _ undef ρ I w rfl (Step.refl _ _ _ _) h1 (fun _ _ => rfl) (hv ▸ undef_rep) ⟨i + 1, hilt, e3, e2⟩
      | false => exact next (extH n0 ops hs L listed) _ undef ρ I w rfl (Step.refl _ _ _ _) h1 (fun _ _ => rfl) (hv ▸ undef_rep) ⟨L, hL, stay hisw, hkeepL (.inl hisw)⟩
  intro fuel
  induction fuel with
  | zero =>
    intro listed ρ I a w inv hf
    have hnil : (List.range ops.size).filter (fun i => !listed.getD i false) = [] := List.eq_nil_of_length_eq_zero (by omega)
    have hall : ∀ i, i < ops.size → listed.getD i false = true := fun i hi => by
      rw [List.filter_eq_nil_iff] at hnil
      simpa using hnil i (by simpa using hi)
    refine ⟨?_, done listed ρ I a w inv hall⟩
    rw [List.eq_nil_iff_forall_not_mem]
    intro i hi
    obtain ⟨o, ho, hni, _⟩ := ready_spec hi inv.lsize
    rw [hall i (Array.getElem?_eq_some_iff.1 ho).1] at hni; cases hni
  | succ fuel ih =>
    intro listed ρ I a w inv hf
    refine ⟨fun hr => done listed ρ I a w inv (ready_least hc inv.lsize hr), fun i hi => step listed ρ I a w inv i hi _ fun ρ' I' a' w' inv' => ih _ ρ' I' a' w' inv' ?_⟩
    obtain ⟨o, ho, hni, _⟩ := ready_spec hi inv.lsize
    have hilt : i < ops.size := (Array.getElem?_eq_some_iff.1 ho).1
    have hil : i < listed.size := by rw [inv.lsize]; exact hilt
    have hlt : ((List.range ops.size).filter fun j => !(listed.setIfInBounds i true).getD j false).length < ((List.range ops.size).filter fun j => !listed.getD j false).length := by
      have hsub : (List.range ops.size).filter (fun j => !(listed.setIfInBounds i true).getD j false) = ((List.range ops.size).filter fun j => !listed.getD j false).filter (fun j => decide (j ≠ i)) := by
        rw [List.filter_filter]
        apply List.filter_congr
        intro j _
        rw [getD_set hil]
        by_cases h : j = i <;> simp [h]
      rw [hsub]
      have hmem : i ∈ (List.range ops.size).filter fun j => !listed.getD j false := List.mem_filter.2 ⟨by simpa using hilt, by simp [hni]⟩
      exact List.length_filter_lt_length_iff_exists.2 ⟨i, hmem, by simp⟩
    omega
end
end Go.Iso
