/- Part of the proof of a law: contracts of the functions that the law reaches, or plain laws of them, out of the abstract layer (the texts YtemjeommnpocnaaGreatIso..). No condition. -/
import Derived.Test.YtemjeommnpocnaaGreatIsoA
import Derived.WalkKit
import Derived.ProofKit
import Derived.OpenShut
import Derived.ShutString
import Derived.ChangeOld
import Derived.Below
import Derived.SizedLaws
import Derived.SliceStrings
import Derived.Deep.Slices
import Derived.Lib.LaidTab
namespace Go.Iso
open Go Go.RowKit
set_option linter.unusedSimpArgs false
set_option linter.unusedVariables false
def dstAt (ops : Array Oper) (i : Nat) : Option Tmp := (ops[i]?).bind (·.dst)
def guardV (ops : Array Oper) (fr : Nat → V) (j : Nat) : V := match dstAt ops j with | some t => fr t | none => .any
def guardK (v : V) (want : Bool) (A B : Unit → Prop) : Prop :=
 match v with
 | .d (.val (.bool b)) => (b = want → A ()) ∧ (b ≠ want → B ())
 | .tup [] => B ()
 | _ => False
def offV (v : V) (want : Bool) : Prop := (∃ b, v = .d (.val (.bool b)) ∧ b ≠ want) ∨ v = .tup []
theorem undef_rep {ρ : Nat → Option Nat} {I : Nat → Prop} {w : World} : RepV ρ I w (.tup []) undef := .tup rfl fun i hi => absurd hi (Nat.not_lt_zero i)
def vcOps [Glb] (P : Program) (dr : Bool) (n0 M : Nat) (ops : Array Oper) : List Oper → Nat → (Nat → V) → Heap → ((Nat → V) → Heap → Prop) → Prop
 | [], _, fr, σ, K => K fr σ
 | o :: rest, i, fr, σ, K =>
  match o.guard with
  | none => wv P dr M o.op fr σ (n0 + i) (Later (Hold fun v σ' => vcOps P dr n0 M ops rest (i + 1) (putF fr o.dst v) σ' K))
  | some (j, want) => guardK (guardV ops fr j) want (Later (Hold fun _ => wv P dr M o.op fr σ (n0 + i) (Later (Hold fun v σ' => vcOps P dr n0 M ops rest (i + 1) (putF fr o.dst v) σ' K))))
    (Later (Hold fun _ => vcOps P dr n0 M ops rest (i + 1) (putF fr o.dst (.tup [])) σ K))
def isAl : Op → Bool
 | .alloc _ => true
 | _ => false
def isSt : Op → Bool
 | .store .. => true
 | _ => false
def simpB (ops : Array Oper) : Bool := ops.all fun o => !isW o.op || isAl o.op || isSt o.op
def alB (ops : Array Oper) (i : Nat) : Bool := simpB ops && ((ops[i]?).map fun o => o.guard.isNone && isAl o.op).getD false
def tgtB (ops : Array Oper) (i : Nat) : Op → Bool
 | .store _ (.tmp s) _ => (List.range i).any fun a => alB ops a && dstAt ops a == some s
 | _ => false
def a0B (ops : Array Oper) : Nat := ((List.range ops.size).find? fun i => alB ops i).getD 0
def phB (ops : Array Oper) : Bool := simpB ops && (List.range ops.size).all fun i => ((ops[i]?).map fun o => !isW o.op || (decide (a0B ops ≤ i) && (alB ops i || tgtB ops i o.op))).getD true
def loB (ops : Array Oper) : Nat := if phB ops then a0B ops else 0
section
variable {P : Program} {ops : Array Oper} {N B n0 M : Nat}
theorem phB_ex (h : phB ops = true) {i : Nat} {o : Oper} (ho : ops[i]? = some o) (hw : isW o.op = true) : a0B ops ≤ i ∧ (alB ops i = true ∨ tgtB ops i o.op = true) := by
 unfold phB at h
 rw [Bool.and_eq_true, List.all_eq_true] at h
 have := h.2 i (by simpa using (Array.getElem?_eq_some_iff.1 ho).1)
 rw [ho] at this
 simpa [hw] using this
theorem phB_simp (h : phB ops = true) : simpB ops = true := by
 unfold phB at h; rw [Bool.and_eq_true] at h; exact h.1
theorem lo_ph {i : Nat} (h : i < loB ops) : phB ops = true ∧ i < a0B ops := by
 unfold loB at h
 split at h
 ·next h1 => exact ⟨h1, h⟩
 ·omega
theorem lo_W {i : Nat} {o : Oper} (ho : ops[i]? = some o) (hw : isW o.op = true) : loB ops ≤ i := by
 unfold loB
 split
 ·next h => exact (phB_ex h ho hw).1
 ·omega
theorem tgtB_ex {i : Nat} {op : Op} (h : tgtB ops i op = true) : ∃ t s y a, op = .store t (.tmp s) y ∧ a < i ∧ alB ops a = true ∧ dstAt ops a = some s := by
 unfold tgtB at h
 split at h
 ·next t s y =>
  rw [List.any_eq_true] at h
  obtain ⟨a, ha, h⟩ := h
  simp only [Bool.and_eq_true, beq_iff_eq] at h
  exact ⟨_, _, _, a, rfl, by simpa using ha, h.1, h.2⟩
 ·cases h
theorem isAl_ex {op : Op} (h : isAl op = true) : ∃ t, op = .alloc t := by cases op <;> simp [isAl] at h; exact ⟨_, rfl⟩
theorem isSt_ex {op : Op} (h : isSt op = true) : ∃ t x y, op = .store t x y := by cases op <;> simp [isSt] at h; exact ⟨_, _, _, rfl⟩
theorem alB_ex {i : Nat} (h : alB ops i = true) : simpB ops = true ∧ ∃ o, ops[i]? = some o ∧ o.guard = none ∧ isAl o.op = true := by
 unfold alB at h
 rw [Bool.and_eq_true] at h
 refine ⟨h.1, ?_⟩
 cases ho : ops[i]? with
 | none => rw [ho] at h; simp at h
 | some o =>
  rw [ho] at h
  simp only [Option.map_some, Option.getD_some, Bool.and_eq_true, Option.isNone_iff_eq_none] at h
  exact ⟨o, rfl, h.2.1, h.2.2⟩
theorem alB_lt {i : Nat} (h : alB ops i = true) : i < ops.size := by
 obtain ⟨_, o, ho, _⟩ := alB_ex h
 exact (Array.getElem?_eq_some_iff.1 ho).1
def PlanX [Glb] (P : Program) (ops : Array Oper) (n0 M i : Nat) (o : Oper) (fr : Nat → V) (σ : Heap) (v : V) (σ' : Heap) : Prop :=
 simpB ops = true → (o.guard = none → isAl o.op = true → (∃ k', v = .ptr (n0 + i) k' 0 0) ∧ ∃ z, σ' = upd σ (n0 + i) (some z) ∧ ∀ (G2 : Nat → V) (σ2 : Heap), OpW P o.op G2 σ2 M (n0 + i) v (upd σ2 (n0 + i) (some z))) ∧ (∀ m, m ≠ n0 + i → σ m = none → σ' m = none) ∧ (∀ t x y, o.op = .store t x y → σ' = σ ∨ ∃ p k1 k2 k3 w, evO fr x = .ptr p k1 k2 k3 ∧ σ' = upd σ p (some w) ∧ (σ p).isSome = true) ∧ (o.guard = none → ∀ t x, o.op = .load t x → ∀ σ2 : Heap, (∀ p k1 k2 k3, evO fr x = .ptr p k1 k2 k3 → σ2 p = σ p) → OpP P o.op fr σ2 v)
theorem loadK_at {agg : Option Bool} {n : Option Nat} {σ : Heap} {x : V} {K : V → Prop} (h : loadK agg n σ x K) :
  ∃ v, K v ∧ ∀ σ2 : Heap, (∀ p k1 k2 k3, x = .ptr p k1 k2 k3 → σ2 p = σ p) → loadK agg n σ2 x (fun u => u = v) := by
 unfold loadK at h; split at h
 ·obtain ⟨v, h1, h2⟩ := optK_some h
  refine ⟨v, h2, fun σ2 _ => ?_⟩
  unfold loadK; simp only [h1, optK]
 ·next g m o k i j =>
  obtain ⟨ow, h1, h2, h⟩ := optK_some h
  obtain ⟨row, h3, h⟩ := optK_some h
  obtain ⟨v, h4, h5⟩ := optK_some h
  refine ⟨v, h5, fun σ2 he => ?_⟩
  unfold loadK; simp only [he _ _ _ _ rfl, h1, optK]
  refine ⟨h2, ?_⟩
  show optK ow.rows[i]? _
  rw [h3]
  show optK (ldV g m (row.drop j)) _
  rw [h4]; exact rfl
 ·exact h.elim
theorem wv_plan [Glb] {G : Nat → V} {σ : Heap} {dr : Bool} {N : Nat} {op : Op} {id : Nat} {K : V → Heap → Prop} (h : wv P dr N op G σ id K) (simp : Bool) (hs : simp = true → isW op = true → isAl op = true ∨ isSt op = true) :
  ∃ v σ', (OpW P op G σ N id v σ' ∧ (dr = true → isW op = false → σ' = σ ∧ OpP P op G σ v ∧ (slotOnly op = true → ∀ σ2, OpP P op G σ2 v))) ∧ K v σ' ∧
   (dr = true → simp = true → (isAl op = true → (∃ k', v = .ptr id k' 0 0) ∧ ∃ z, σ' = upd σ id (some z) ∧ ∀ (G2 : Nat → V) (σ2 : Heap), OpW P op G2 σ2 N id v (upd σ2 id (some z))) ∧ (∀ m, m ≠ id → σ m = none → σ' m = none) ∧ (∀ t x y, op = .store t x y → σ' = σ ∨ ∃ p k1 k2 k3 w, evO G x = .ptr p k1 k2 k3 ∧ σ' = upd σ p (some w) ∧ (σ p).isSome = true) ∧ (∀ t x, op = .load t x → ∀ σ2 : Heap, (∀ p k1 k2 k3, evO G x = .ptr p k1 k2 k3 → σ2 p = σ p) → OpP P op G σ2 v)) := by
 by_cases hd : dr = true ∧ simp = true
 ·obtain ⟨rfl, hsi⟩ := hd
  by_cases hw : isW op = true
  ·rcases hs hsi hw with ha | ha
   ·obtain ⟨t, rfl⟩ := isAl_ex ha
    change allocK (zOf P t) σ id K at h
    unfold allocK at h; split at h
    ·next z h1 => exact ⟨_, _, ⟨.alloc h1 h.1, fun _ h => by cases h⟩, h.2, fun _ _ => ⟨fun _ => ⟨⟨_, rfl⟩, _, rfl, fun G2 σ2 => .alloc h1 h.1⟩, (fun m hm hn => by rw [upd_ne _ _ hm]; exact hn), (fun _ _ _ e => by cases e), fun _ _ e => by cases e⟩⟩
    ·exact h.elim
   ·obtain ⟨t, x, y, rfl⟩ := isSt_ex ha
    change storeK (szOf P t) (evO G x) (evO G y) σ K at h
    unfold storeK at h; split at h
    ·next n o k i j h1 hx =>
     obtain ⟨ow, h2, h3, h⟩ := optK_some h
     obtain ⟨row, h4, h5, h6, h7, h8, h9⟩ := optK_some h
     refine ⟨_, _, ⟨.store hx h2 h3 h4 h1 h5 h6 h7 h8, fun _ h => by cases h⟩, h9, fun _ _ => ⟨(fun h => by cases h), fun m hm hn => ?_, (fun _ _ _ e => by cases e; exact .inr ⟨_, _, _, _, _, hx, rfl, by rw [h2]; rfl⟩), fun _ _ e => by cases e⟩⟩
     have : m ≠ o := fun e => by rw [e, h2] at hn; cases hn
     rw [upd_ne _ _ this]; exact hn
    ·exact h.elim
  ·by_cases hld : ∃ t x, op = .load t x
   ·obtain ⟨t, x, rfl⟩ := hld
    change loadK (aggOf P t) (szOf P t) σ (evO G x) (fun v => K v σ) at h
    obtain ⟨v, h1, h2⟩ := loadK_at h
    have hp : ∀ σ2 : Heap, (∀ p k1 k2 k3, evO G x = .ptr p k1 k2 k3 → σ2 p = σ p) → OpP P (.load t x) G σ2 v := fun σ2 he => by
     obtain ⟨u, k1, _, k3⟩ := pv_sound (op := .load t x) (h2 σ2 he)
     cases k3; exact k1
    exact ⟨v, σ, ⟨(hp σ fun _ _ _ _ _ => rfl).opW N id, fun _ _ => ⟨rfl, hp σ fun _ _ _ _ _ => rfl, fun h => by cases h⟩⟩, h1, fun _ _ => ⟨(fun h => by cases h), (fun _ _ h => h), (fun _ _ _ e => by cases e), fun t' x' e σ2 he => by cases e; exact hp σ2 he⟩⟩
   obtain ⟨v, σ', h1, h2, h3⟩ := wv_sound h
   obtain ⟨e, _⟩ := h2 rfl (by simpa using hw)
   refine ⟨v, σ', ⟨h1, h2⟩, h3, fun _ _ => ⟨fun ha => ?_, (fun m _ hn => e ▸ hn), (fun _ _ _ _ => .inl e), fun t x e => absurd ⟨t, x, e⟩ hld⟩⟩
   obtain ⟨t, rfl⟩ := isAl_ex ha
   exact absurd rfl hw
 ·obtain ⟨v, σ', h1, h2, h3⟩ := wv_sound h
  exact ⟨v, σ', ⟨h1, h2⟩, h3, fun a b => absurd ⟨a, b⟩ hd⟩
def Planned [Glb] (P : Program) (dr : Bool) (n0 M : Nat) (ops : Array Oper) (i : Nat) (o : Oper) (fr : Nat → V) (σ : Heap) (v : V) (σ' : Heap) : Prop :=
 (((o.guard = none ∨ ∃ j want t, o.guard = some (j, want) ∧ dstAt ops j = some t ∧ fr t = .d (.val (.bool want))) ∧
  OpW P o.op fr σ M (n0 + i) v σ' ∧ (dr = true → isW o.op = false → σ' = σ ∧ OpP P o.op fr σ v ∧ (slotOnly o.op = true → ∀ σ2, OpP P o.op fr σ2 v)))
  ∨ ((∃ j want t, o.guard = some (j, want) ∧ dstAt ops j = some t ∧ offV (fr t) want) ∧ v = .tup [] ∧ σ' = σ))
theorem vcOps_plan [Glb] {dr : Bool} {K : (Nat → V) → Heap → Prop} : ∀ (rest : List Oper) (i : Nat) (fr : Nat → V) (σ : Heap), (∀ o ∈ rest, o ∈ ops) → vcOps P dr n0 M ops rest i fr σ K →
  ∃ (vals : Nat → V) (hs : Nat → Heap) (G : Nat → Nat → V), hs i = σ ∧ G i = fr ∧
   (∀ k (hk : k < rest.length), (Planned P dr n0 M ops (i + k) rest[k] (G (i + k)) (hs (i + k)) (vals (i + k)) (hs (i + k + 1)) ∧ (dr = true → PlanX P ops n0 M (i + k) rest[k] (G (i + k)) (hs (i + k)) (vals (i + k)) (hs (i + k + 1)))) ∧ G (i + k + 1) = putF (G (i + k)) rest[k].dst (vals (i + k))) ∧
   K (G (i + rest.length)) (hs (i + rest.length))
 | [], i, fr, σ, _, h => ⟨fun _ => .any, fun _ => σ, fun _ => fr, rfl, rfl, fun k hk => absurd hk (Nat.not_lt_zero k), h⟩
 | o :: rest, i, fr, σ, hsub, h => by
  unfold vcOps at h
  have hsi : simpB ops = true → isW o.op = true → isAl o.op = true ∨ isSt o.op = true := fun hs hw => by
   unfold simpB at hs
   rw [Array.all_eq_true_iff_forall_mem] at hs
   have := hs o (hsub o (List.mem_cons_self ..))
   simpa [hw] using this
  have key : ∀ v σ', Planned P dr n0 M ops i o fr σ v σ' → (dr = true → PlanX P ops n0 M i o fr σ v σ') → vcOps P dr n0 M ops rest (i + 1) (putF fr o.dst v) σ' K →
    ∃ (vals : Nat → V) (hs : Nat → Heap) (G : Nat → Nat → V), hs i = σ ∧ G i = fr ∧
     (∀ k (hk : k < (o :: rest).length), (Planned P dr n0 M ops (i + k) (o :: rest)[k] (G (i + k)) (hs (i + k)) (vals (i + k)) (hs (i + k + 1)) ∧ (dr = true → PlanX P ops n0 M (i + k) (o :: rest)[k] (G (i + k)) (hs (i + k)) (vals (i + k)) (hs (i + k + 1)))) ∧ G (i + k + 1) = putF (G (i + k)) (o :: rest)[k].dst (vals (i + k))) ∧
     K (G (i + (o :: rest).length)) (hs (i + (o :: rest).length)) := by
   intro v σ' hp hx hv
   obtain ⟨vals, hs, G, h1, h2, h3, h4⟩ := vcOps_plan rest (i + 1) _ _ (fun o ho => hsub o (List.mem_cons_of_mem _ ho)) hv
   refine ⟨upd vals i v, upd hs i σ, upd G i fr, upd_same _ _ _, upd_same _ _ _, fun k hk => ?_, ?_⟩
   ·cases k with
    | zero =>
     simp only [Nat.add_zero, upd_same, List.getElem_cons_zero]
     rw [upd_ne hs σ (by omega : i + 1 ≠ i), upd_ne G fr (by omega : i + 1 ≠ i), h1, h2]
     exact ⟨⟨hp, hx⟩, rfl⟩
    | succ k =>
     have hk' : k < rest.length := by simpa using hk
     have e : i + (k + 1) = i + 1 + k := by omega
     rw [e, upd_ne vals v (by omega : i + 1 + k ≠ i), upd_ne hs σ (by omega : i + 1 + k ≠ i), upd_ne hs σ (by omega : i + 1 + k + 1 ≠ i), upd_ne G fr (by omega : i + 1 + k ≠ i), upd_ne G fr (by omega : i + 1 + k + 1 ≠ i)]
     exact h3 k hk'
   ·rw [show i + (o :: rest).length = i + 1 + rest.length by simp; omega, upd_ne hs σ (by omega), upd_ne G fr (by omega)]
    exact h4
  split at h
  ·next hg =>
   obtain ⟨v, σ', ⟨h1, h2⟩, h3, h4⟩ := wv_plan h (simpB ops) hsi
   exact key v σ' (.inl ⟨.inl hg, h1, h2⟩) (fun hd hs => ⟨fun _ => (h4 hd hs).1, (h4 hd hs).2.1, (h4 hd hs).2.2.1, fun _ => (h4 hd hs).2.2.2⟩) h3
  ·next j want hg =>
   unfold guardK at h
   split at h
   ·next b hb0 =>
    unfold guardV at hb0
    split at hb0
    ·next t ht =>
     have hb := hb0
     by_cases hbw : b = want
     ·subst hbw
      obtain ⟨v, σ', ⟨h1, h2⟩, h3, h4⟩ := wv_plan (h.1 rfl) (simpB ops) hsi
      exact key v σ' (.inl ⟨.inr ⟨j, b, t, hg, ht, hb⟩, h1, h2⟩) (fun hd hs => ⟨fun _ => (h4 hd hs).1, (h4 hd hs).2.1, (h4 hd hs).2.2.1, fun _ => (h4 hd hs).2.2.2⟩) h3
     ·exact key (.tup []) σ (.inr ⟨⟨j, want, t, hg, ht, .inl ⟨b, hb, hbw⟩⟩, rfl, rfl⟩) (fun _ _ => ⟨(fun h => by rw [hg] at h; cases h), (fun _ _ h => h), (fun _ _ _ _ => .inl rfl), fun h => by rw [hg] at h; cases h⟩) (h.2 hbw)
    ·cases hb0
   ·next hb0 =>
    unfold guardV at hb0
    split at hb0
    ·next t ht => exact key (.tup []) σ (.inr ⟨⟨j, want, t, hg, ht, .inr hb0⟩, rfl, rfl⟩) (fun _ _ => ⟨(fun h => by rw [hg] at h; cases h), (fun _ _ h => h), (fun _ _ _ _ => .inl rfl), fun h => by rw [hg] at h; cases h⟩) h
    ·cases hb0
   ·exact h.elim
theorem wanted_true {o : Oper} {ρ : Nat → Option Nat} {I : Nat → Prop} {w : World} {a : Act} (hN : a.tmps.size = N) {t : Tmp} {j : Nat} {want b : Bool} (hg : o.guard = some (j, want)) (ht : dstAt ops j = some t) (hlt : t < N)
  (hv : RepV ρ I w (.d (.val (.bool b))) (a.eval (.tmp t))) : Region.wanted o (yielded ops a.tmps) = (b == want) := by
 have h1 := hv.val rfl
 simp only [Act.eval, Array.getD_eq_getD_getElem?, Array.getElem?_eq_getElem (hN ▸ hlt : t < a.tmps.size), Option.getD_some] at h1
 unfold dstAt at ht
 simp [Region.wanted, hg, yielded, ht, h1, Array.getElem?_eq_getElem (hN ▸ hlt : t < a.tmps.size)]
theorem wanted_off {o : Oper} {ρ : Nat → Option Nat} {I : Nat → Prop} {w : World} {a : Act} (hN : a.tmps.size = N) {t : Tmp} {j : Nat} {want : Bool} {v : V} (hg : o.guard = some (j, want)) (ht : dstAt ops j = some t) (hlt : t < N)
  (hv : RepV ρ I w v (a.eval (.tmp t))) (ho : offV v want) : Region.wanted o (yielded ops a.tmps) = false := by
 rcases ho with ⟨b, rfl, hb⟩ | rfl
 ·rw [wanted_true hN hg ht hlt hv]; simpa using hb
 ·obtain ⟨vs, h1, h2, _⟩ := hv.toTup rfl
  simp only [Act.eval, Array.getD_eq_getD_getElem?, Array.getElem?_eq_getElem (hN ▸ hlt : t < a.tmps.size), Option.getD_some] at h1
  unfold dstAt at ht
  simp [Region.wanted, hg, yielded, ht, h1, Array.getElem?_eq_getElem (hN ▸ hlt : t < a.tmps.size)]
/-! ### The order of the text -/
theorem ops_seq [Glb] {Q : Exit → Act → World → Prop} {dr : Bool} {σ0 : Heap} {ρ0 : Nat → Option Nat} {I0 : Nat → Prop} {w0 : World} (hM : M = n0 + ops.size) {K : (Nat → V) → Heap → Prop}
  (hdst : ∀ i t, dstAt ops i = some t → t < N)
  (hQ : ∀ fr σ ρ I a w, K fr σ → HeapOk σ ρ I w → (∀ o, M ≤ o → ρ o = none) → (∀ t, RepV ρ I w (fr t) (a.eval (.tmp t))) → a.defers = [] → a.tmps.size = N → Step σ0 ρ0 I0 w0 σ ρ I w → (∀ o, o < n0 → ρ o = ρ0 o) → Q .normal a w) :
  ∀ (rest : List Oper) (i : Nat) (fr : Nat → V) (σ : Heap) (ρ : Nat → Option Nat) (I : Nat → Prop) (a : Act) (w : World), i ≤ ops.size → ops.toList.drop i = rest → vcOps P dr n0 M ops rest i fr σ K →
   HeapOk σ ρ I w → (∀ o, n0 + i ≤ o → ρ o = none) → (∀ t, RepV ρ I w (fr t) (a.eval (.tmp t))) → a.defers = [] → a.tmps.size = N → Step σ0 ρ0 I0 w0 σ ρ I w → (∀ o, o < n0 → ρ o = ρ0 o) →
   wpOps P ops Q ((List.range ops.size).drop i) a w
 | [], i, fr, σ, ρ, I, a, w, hle, hr, hv, hh, hf, hfr, hd, hN, hs, hlow => by
  have hi : ops.size ≤ i := by simpa using List.drop_eq_nil_iff.1 hr
  rw [List.drop_eq_nil_iff.2 (by simpa using hi)]
  exact hQ fr σ ρ I a w hv hh (fun o ho => hf o (by omega)) hfr hd hN hs hlow
 | o :: rest, i, fr, σ, ρ, I, a, w, hle, hr, hv, hh, hf, hfr, hd, hN, hs, hlow => by
  have hlt : i < ops.size := by
   rcases Nat.lt_or_ge i ops.size with h | h
   ·exact h
   ·rw [List.drop_eq_nil_iff.2 (by simpa using h)] at hr; cases hr
  have hcons : (List.range ops.size).drop i = i :: (List.range ops.size).drop (i + 1) := by
   rw [List.drop_eq_getElem_cons (by simpa using hlt)]; simp
  have ho : ops[i]? = some o := by
   have h1 : (ops.toList.drop i)[0]? = some o := by rw [hr]; rfl
   simpa [List.getElem?_drop] using h1
  have hr' : ops.toList.drop (i + 1) = rest := by
   rw [← List.tail_drop, hr]; rfl
  rw [hcons]
  unfold vcOps at hv
  have hdo : dstOk N o.dst = true := by
   cases hd' : o.dst with
   | none => rfl
   | some t => simpa [dstOk] using hdst i t (by simp [dstAt, ho, hd'])
  simp only [wpOps, ho]
  have ok : OkOn fr ρ I w a o.op.operands := fun t _ => hfr t
  have exec : ∀ v σ', OpW P o.op fr σ M (n0 + i) v σ' → vcOps P dr n0 M ops rest (i + 1) (putF fr o.dst v) σ' K → o.wp P a w (wpOps P ops Q ((List.range ops.size).drop (i + 1))) Q := by
   intro v σ' hw hk
   refine hw o rfl ρ I a w hh (fun m hm => hf m (by omega)) (hf _ (Nat.le_refl _)) ok _ _ fun c ρ' I' w' hs' hh' hid hv' => ?_
   refine ops_seq hM hdst hQ rest (i + 1) _ σ' ρ' I' _ w' hlt hr' hk hh' (fun m hm => by rw [hid m (by omega)]; exact hf m (by omega)) ?_ (put_defers.trans hd) (put_size.trans hN) (hs.trans hs') (fun m hm => (hid m (by omega)).trans (hlow m hm))
   exact frame_put (fun t => hs'.rep hh (hfr t)) hN hdo hv'
  have skip : vcOps P dr n0 M ops rest (i + 1) (putF fr o.dst (.tup [])) σ K → wpOps P ops Q ((List.range ops.size).drop (i + 1)) (a.put o.dst undef) w := fun hk =>
   ops_seq hM hdst hQ rest (i + 1) _ σ ρ I _ w hlt hr' hk hh (fun m hm => hf m (by omega)) (frame_put hfr hN hdo undef_rep) (put_defers.trans hd) (put_size.trans hN) hs hlow
  split at hv
  ·next hg =>
   obtain ⟨v, σ', h1, _, h3⟩ := wv_sound hv
   rw [if_pos (by simp [Region.wanted, hg])]
   exact .inl (exec v σ' h1 h3)
  ·next j want hg =>
   unfold guardK at hv
   split at hv
   ·next b hb0 =>
    unfold guardV at hb0
    split at hb0
    ·next t ht =>
     have hb := hb0
     have hwant := wanted_true (N := N) (ops := ops) hN hg ht (hdst j t ht) (hb ▸ hfr t)
     by_cases hbw : b = want
     ·obtain ⟨v, σ', h1, _, h3⟩ := wv_sound (hv.1 hbw)
      rw [if_pos (by rw [hwant]; simpa using hbw)]
      exact .inl (exec v σ' h1 h3)
     ·rw [if_neg (by rw [hwant]; simpa using hbw)]
      exact skip (hv.2 hbw)
    ·cases hb0
   ·next hb0 =>
    unfold guardV at hb0
    split at hb0
    ·next t ht =>
     rw [if_neg (by rw [wanted_off (N := N) (ops := ops) hN hg ht (hdst j t ht) (hfr t) (.inr hb0)]; simp)]
     exact skip hv
    ·cases hb0
   ·exact hv.elim
/-! ### Any order -/
def ancB (ops : Array Oper) : Nat → Nat → Nat → Bool
 | 0, _, _ => false
 | n + 1, i, j => ((ops[i]?).map (·.after.toList.any fun e => Region.binds .any e && (e.on == j || ancB ops n e.on j))).getD false
def orderedB (ops : Array Oper) (i j : Nat) : Bool := (decide (j < i) && ancB ops ops.size i j) || (decide (i < j) && ancB ops ops.size j i)
def chkB (N : Nat) (ops : Array Oper) : Bool :=
 (List.range ops.size).all fun i =>
  ((ops[i]?).map fun o => o.after.all (fun e => !Region.binds .any e || decide (e.on < i)) && dstOk N o.dst &&
   (List.range ops.size).all fun j => i == j ||
    (match dstAt ops j with
     | some t => o.dst != some t && (!(o.looksAt ops).contains t || orderedB ops i j)
     | none => true) &&
    (match ops[j]? with
     | some oj => !(isW o.op && !slotOnly oj.op) || (decide (j < loB ops) || (if alB ops i then alB ops j || decide (j < i) || ancB ops ops.size j i else alB ops j || orderedB ops i j))
     | none => true)).getD true
structure Chk (N : Nat) (ops : Array Oper) : Prop where
 edge : ∀ (i : Nat) (o : Oper), ops[i]? = some o → ∀ e ∈ o.after, Region.binds .any e = true → e.on < i
 dst : ∀ (i : Nat) (o : Oper), ops[i]? = some o → dstOk N o.dst = true
 one : ∀ (i : Nat) (o : Oper) (j : Nat) (t : Tmp), ops[i]? = some o → i ≠ j → dstAt ops j = some t → o.dst ≠ some t
 look : ∀ (i : Nat) (o : Oper) (j : Nat) (t : Tmp), ops[i]? = some o → i ≠ j → dstAt ops j = some t → t ∈ o.looksAt ops → orderedB ops i j = true
 heap : ∀ (i : Nat) (o : Oper) (j : Nat) (oj : Oper), ops[i]? = some o → ops[j]? = some oj → i ≠ j → isW o.op = true → slotOnly oj.op = false → alB ops i = false → alB ops j = false → loB ops ≤ j → orderedB ops i j = true
 heapA : ∀ (i : Nat) (o : Oper) (j : Nat) (oj : Oper), ops[i]? = some o → ops[j]? = some oj → i ≠ j → isW o.op = true → slotOnly oj.op = false → alB ops i = true → alB ops j = false → loB ops ≤ j → i < j → ancB ops ops.size j i = true
theorem chk_of {ops : Array Oper} (h : chkB N ops = true) : Chk N ops := by
 unfold chkB at h
 rw [List.all_eq_true] at h
 have get : ∀ i o, ops[i]? = some o → _ := fun i o (ho : ops[i]? = some o) => by
  have hi : i < ops.size := (Array.getElem?_eq_some_iff.1 ho).1
  have := h i (by simpa using hi)
  rw [ho] at this
  simp only [Option.map_some, Option.getD_some, Bool.and_eq_true] at this
  exact this
 have getj : ∀ i o j, ops[i]? = some o → i ≠ j → j < ops.size → _ := fun i o j (ho : ops[i]? = some o) (hij : i ≠ j) (hj : j < ops.size) => by
  have := (get i o ho).2
  rw [List.all_eq_true] at this
  have := this j (by simpa using hj)
  simp only [(by simpa using hij : (i == j) = false), Bool.or_eq_true, Bool.false_eq_true, false_or, Bool.and_eq_true] at this
  exact this
 have dlt : ∀ j t, dstAt ops j = some t → j < ops.size := fun j t hj => by
  rcases Nat.lt_or_ge j ops.size with h | h
  ·exact h
  ·simp [dstAt, Array.getElem?_eq_none h] at hj
 refine ⟨fun i o ho e he hb => ?_, fun i o ho => (get i o ho).1.2, fun i o j t ho hij hj => ?_, fun i o j t ho hij hj hl => ?_, fun i o j oj ho hj hij h1 h2 h3 h4 h6 => ?_, fun i o j oj ho hj hij h1 h2 h3 h4 h6 h5 => ?_⟩
 ·have := (get i o ho).1.1
  rw [Array.all_eq_true_iff_forall_mem] at this
  have := this e he
  simpa [hb] using this
 ·have := (getj i o j ho hij (dlt j t hj)).1
  rw [hj] at this
  simp only [Bool.and_eq_true, bne_iff_ne, ne_eq] at this
  exact this.1
 ·have := (getj i o j ho hij (dlt j t hj)).1
  rw [hj] at this
  simp only [Bool.and_eq_true, Bool.or_eq_true, Bool.not_eq_true', List.contains_eq_mem, decide_eq_false_iff_not] at this
  exact this.2.resolve_left (fun h => h hl)
 ·have := (getj i o j ho hij (Array.getElem?_eq_some_iff.1 hj).1).2
  rw [hj] at this
  have hlo : ¬ j < loB ops := by omega
  simpa [h1, h2, h3, h4, hlo] using this
 ·have := (getj i o j ho hij (Array.getElem?_eq_some_iff.1 hj).1).2
  rw [hj] at this
  have hn : ¬ j < i := by omega
  have hlo : ¬ j < loB ops := by omega
  simpa [h1, h2, h3, h4, hn, hlo] using this
def Down (ops : Array Oper) (listed : Array Bool) : Prop :=
 ∀ i o, ops[i]? = some o → listed.getD i false = true → ∀ e ∈ o.after, Region.binds .any e = true → listed.getD e.on false = true
theorem anc_listed {listed : Array Bool} (hd : Down ops listed) : ∀ (n i j : Nat), ancB ops n i j = true →
  (∀ o, ops[i]? = some o → ∀ e ∈ o.after, Region.binds .any e = true → listed.getD e.on false = true) → listed.getD j false = true
 | 0, i, j, h, _ => by cases h
 | n + 1, i, j, h, hi => by
  unfold ancB at h
  cases ho : ops[i]? with
  | none => simp [ho] at h
  | some o =>
   simp only [ho, Option.map_some, Option.getD_some, List.any_eq_true] at h
   obtain ⟨e, he, h⟩ := h
   have he : e ∈ o.after := by simpa using he
   simp only [Bool.and_eq_true, Bool.or_eq_true, beq_iff_eq] at h
   have hl := hi o ho e he h.1
   rcases h.2 with h2 | h2
   ·exact h2 ▸ hl
   ·exact anc_listed hd n e.on j h2 fun o' ho' e' he' hb' => hd _ o' ho' hl e' he' hb'
theorem isW_slot {op : Op} (h : isW op = true) : slotOnly op = false := by
 unfold isW at h
 split at h <;> first | rfl | cases h
/-! ### Variables that were made early -/
def joinH (σ X : Heap) : Heap := fun o => (X o).or (σ o)
theorem joinH_none {σ X : Heap} {o : Nat} (h : X o = none) : joinH σ X o = σ o := by simp [joinH, h]
theorem joinH_some {σ X : Heap} {o : Nat} {x : Own} (h : X o = some x) : joinH σ X o = some x := by simp [joinH, h]
theorem OpW.frame [Glb] {op : Op} {G : Nat → V} {σ σ' : Heap} {N id : Nat} {v : V} (X : Heap) (h : OpW P op G σ N id v σ') (hX : ∀ o x, X o = some x → o ≠ id ∧ σ o = none ∧ σ' o = none) : OpW P op G (joinH σ X) N id v (joinH σ' X) := by
 intro o ho ρ I a w hh hN hid hg K Q hK
 have sub : ∀ p x, σ p = some x → joinH σ X p = some x := fun p x hp => by
  cases hx : X p with
  | none => rw [joinH_none hx]; exact hp
  | some y => rw [(hX p y hx).2.1] at hp; cases hp
 have hσ : HeapOk σ ρ I w := hh.forget sub
 refine h o ho ρ I a w hσ hN hid hg K Q fun c ρ' I' w' st hh' hx hv => ?_
 have up : ∀ b, Owns σ ρ b → Owns (joinH σ X) ρ b := fun b ⟨p, x, h1, h2⟩ => ⟨p, x, sub p x h1, h2⟩
 have own' : ∀ b, Owns (joinH σ' X) ρ' b → Owns (joinH σ X) ρ b ∨ w.heap.size ≤ b := by
  rintro b ⟨p, x, h1, h2⟩
  cases hp : X p with
  | none =>
   rw [joinH_none hp] at h1
   exact (st.owned b ⟨p, x, h1, h2⟩).imp (up b) fun h => h
  | some y =>
   rw [hx p (hX p y hp).1] at h2
   exact .inl ⟨p, y, joinH_some hp, h2⟩
 have notIn : ∀ p y b, X p = some y → ρ p = some b → ¬ Owns σ ρ b := by
  rintro p y b hp hb ⟨q, z, h1, h2⟩
  have := hh.inj p q y z b (joinH_some hp) (sub q z h1) hb h2
  subst this
  rw [(hX p y hp).2.1] at h1; cases h1
 refine hK c ρ' I' w' ⟨⟨st.os, st.tape, st.output, st.size, fun b hb hn => st.kept b hb fun h => hn (up b h), st.sz, own', st.imm, fun b hb => (st.immNew b hb).imp (fun h => h) (Or.imp (up b) fun h => h)⟩, st.ids⟩ ⟨fun p x hp => ?_, fun p p' x x' b h1 h2 h3 h4 => ?_, hh'.base⟩ hx hv
 ·cases hpX : X p with
  | none => rw [joinH_none hpX] at hp; exact hh'.own p x hp
  | some y =>
   rw [joinH_some hpX] at hp
   obtain rfl := Option.some.inj hp
   obtain ⟨b, c', e', k1, k2, k3, k4, k5⟩ := hh.own p y (joinH_some hpX)
   have hbs : b < w.heap.size := hh.owns_lt ⟨p, y, joinH_some hpX, k1⟩
   have hno := notIn p y b hpX k1
   refine ⟨b, c', e', by rw [hx p (hX p y hpX).1]; exact k1, ?_, k3, fun hb => ?_, fun i hi => ⟨(k5 i hi).1, fun j hj => st.rep hσ ((k5 i hi).2 j hj)⟩⟩
   ·exact k2.of_eq (st.kept b hbs hno)
   ·rcases st.immNew b hb with h | h | h
    ·exact k4 h
    ·exact hno h
    ·omega
 ·have low : ∀ p y, X p = some y → ρ' p = some b → ρ p = some b ∧ b < w.heap.size ∧ ¬ Owns σ ρ b := fun p y hp hb => by
   rw [hx p (hX p y hp).1] at hb
   exact ⟨hb, hh.owns_lt ⟨p, y, joinH_some hp, hb⟩, notIn p y b hp hb⟩
  cases hpX : X p with
  | none =>
   rw [joinH_none hpX] at h1
   cases hpX' : X p' with
   | none => rw [joinH_none hpX'] at h2; exact hh'.inj p p' x x' b h1 h2 h3 h4
   | some y =>
    obtain ⟨l1, l2, l3⟩ := low p' y hpX' h4
    rcases st.owned b ⟨p, x, h1, h3⟩ with h | h
    ·exact absurd h l3
    ·omega
  | some y =>
   obtain ⟨l1, l2, l3⟩ := low p y hpX h3
   cases hpX' : X p' with
   | none =>
    rw [joinH_none hpX'] at h2
    rcases st.owned b ⟨p', x', h2, h4⟩ with h | h
    ·exact absurd h l3
    ·omega
   | some y' =>
    obtain ⟨m1, _, _⟩ := low p' y' hpX' h4
    exact hh.inj p p' y y' b (joinH_some hpX) (joinH_some hpX') l1 m1
theorem OpP.more [Glb] {op : Op} {G : Nat → V} {σ σ2 : Heap} {v : V} (h : OpP P op G σ v) (hs : ∀ o x, σ o = some x → σ2 o = some x) : OpP P op G σ2 v :=
 fun o ho ρ I a w hh hg K Q hK => h o ho ρ I a w (hh.forget hs) hg K Q hK
theorem if_cong {α : Type} {p q : Prop} [Decidable p] [Decidable q] {a b : α} (h1 : p → q) (h2 : q → p) : (if p then a else b) = if q then a else b := by
 by_cases hp : p
 ·rw [if_pos hp, if_pos (h1 hp)]
 ·rw [if_neg hp, if_neg fun h => hp (h2 h)]
def xH (n0 : Nat) (ops : Array Oper) (hs : Nat → Heap) (L : Nat) (listed : Array Bool) : Heap := fun o => if n0 ≤ o ∧ alB ops (o - n0) = true ∧ L ≤ o - n0 ∧ listed.getD (o - n0) false = true then hs (o - n0 + 1) o else none
def extH (n0 : Nat) (ops : Array Oper) (hs : Nat → Heap) (L : Nat) (listed : Array Bool) : Heap := joinH (hs L) (xH n0 ops hs L listed)
section
variable {hs : Nat → Heap} {L : Nat} {listed listed' : Array Bool}
theorem xH_some {o : Nat} {x : Own} (h : xH n0 ops hs L listed o = some x) : ∃ i, o = n0 + i ∧ alB ops i = true ∧ L ≤ i ∧ listed.getD i false = true ∧ hs (i + 1) o = some x := by
 unfold xH at h
 split at h
 ·next h1 => exact ⟨o - n0, by omega, h1.2.1, h1.2.2.1, h1.2.2.2, h⟩
 ·cases h
theorem xH_move {k : Nat} (hk : alB ops k = false) (hl : ∀ m, m ≠ k → listed'.getD m false = listed.getD m false) : xH n0 ops hs (k + 1) listed' = xH n0 ops hs k listed := by
 funext o
 unfold xH
 by_cases h : o - n0 = k
 ·rw [if_neg (by rw [h, hk]; simp), if_neg (by rw [h, hk]; simp)]
 ·rw [hl _ h]
  exact if_cong (fun q => ⟨q.1, q.2.1, by omega, q.2.2.2⟩) fun q => ⟨q.1, q.2.1, by omega, q.2.2.2⟩
theorem xH_same {i : Nat} (hi : alB ops i = false) (hl : ∀ m, m ≠ i → listed'.getD m false = listed.getD m false) : xH n0 ops hs L listed' = xH n0 ops hs L listed := by
 funext o
 unfold xH
 by_cases h : o - n0 = i
 ·rw [if_neg (by rw [h, hi]; simp), if_neg (by rw [h, hi]; simp)]
 ·rw [hl _ h]
theorem ext_step {k : Nat} (h : (alB ops k = false ∧ hs (k + 1) = hs k) ∨ (alB ops k = true ∧ listed.getD k false = true ∧ ∃ z, hs (k + 1) = upd (hs k) (n0 + k) (some z))) : extH n0 ops hs k listed = extH n0 ops hs (k + 1) listed := by
 rcases h with ⟨h1, h2⟩ | ⟨h1, h2, z, h3⟩
 ·unfold extH; rw [xH_move h1 fun _ _ => rfl, h2]
 ·funext o
  unfold extH
  by_cases ho : o = n0 + k
  ·subst ho
   have x1 : xH n0 ops hs k listed (n0 + k) = some z := by
    unfold xH
    rw [if_pos ⟨by omega, by rw [Nat.add_sub_cancel_left]; exact h1, by omega, by rw [Nat.add_sub_cancel_left]; exact h2⟩, Nat.add_sub_cancel_left, h3, upd_same]
   have x2 : xH n0 ops hs (k + 1) listed (n0 + k) = none := by
    unfold xH; rw [if_neg (by omega)]
   rw [joinH_some x1, joinH_none x2, h3, upd_same]
  ·have x1 : xH n0 ops hs (k + 1) listed o = xH n0 ops hs k listed o := by
    unfold xH
    by_cases hn : n0 ≤ o
    ·exact if_cong (fun q => ⟨q.1, q.2.1, by omega, q.2.2.2⟩) fun q => ⟨q.1, q.2.1, by omega, q.2.2.2⟩
    ·rw [if_neg (fun h => hn h.1), if_neg (fun h => hn h.1)]
   unfold joinH
   rw [x1, h3, upd_ne _ _ ho]
theorem ext_range : ∀ d, (∀ k, L ≤ k → k < L + d → (alB ops k = false ∧ hs (k + 1) = hs k) ∨ (alB ops k = true ∧ listed.getD k false = true ∧ ∃ z, hs (k + 1) = upd (hs k) (n0 + k) (some z))) → extH n0 ops hs L listed = extH n0 ops hs (L + d) listed
 | 0, _ => rfl
 | d + 1, h => by
  rw [ext_range d fun k h1 h2 => h k h1 (by omega), ext_step (h (L + d) (by omega) (by omega))]
  rfl
theorem ext_new {i : Nat} {z : Own} (hi : alB ops i = true) (hL : L ≤ i) (hl : ∀ m, m ≠ i → listed'.getD m false = listed.getD m false) (hli : listed'.getD i false = true) (hz : hs (i + 1) = upd (hs i) (n0 + i) (some z)) : extH n0 ops hs L listed' = upd (extH n0 ops hs L listed) (n0 + i) (some z) := by
 funext o
 unfold extH
 by_cases ho : o = n0 + i
 ·subst ho
  have x1 : xH n0 ops hs L listed' (n0 + i) = some z := by
   unfold xH
   rw [if_pos ⟨by omega, by rw [Nat.add_sub_cancel_left]; exact hi, by omega, by rw [Nat.add_sub_cancel_left]; exact hli⟩, Nat.add_sub_cancel_left, hz, upd_same]
  rw [joinH_some x1, upd_same]
 ·rw [upd_ne _ _ ho]
  have x1 : xH n0 ops hs L listed' o = xH n0 ops hs L listed o := by
   unfold xH
   by_cases hn : n0 ≤ o
   ·rw [hl _ (by omega)]
   ·rw [if_neg (fun h => hn h.1), if_neg (fun h => hn h.1)]
  unfold joinH
  rw [x1]
end
structure Inv [Glb] (N n0 M : Nat) (ops : Array Oper) (fr0 : Nat → V) (vals : Nat → V) (hs : Nat → Heap) (σ0 : Heap) (ρ0 : Nat → Option Nat) (I0 : Nat → Prop) (w0 : World)
  (listed : Array Bool) (ρ : Nat → Option Nat) (I : Nat → Prop) (a : Act) (w : World) : Prop where
 down : Down ops listed
 lsize : listed.size = ops.size
 heap : ∃ L, L ≤ ops.size ∧ HeapOk (extH n0 ops hs L listed) ρ I w ∧ Step σ0 ρ0 I0 w0 (extH n0 ops hs L listed) ρ I w ∧ (∀ (i : Nat) (o : Oper), ops[i]? = some o → isW o.op = true → alB ops i = false → (listed.getD i false = true ↔ i < L)) ∧ ∀ i, alB ops i = true → i < L → listed.getD i false = true
 freshM : ∀ m, M ≤ m → ρ m = none
 fresh : ∀ i, i < ops.size → listed.getD i false = false → ρ (n0 + i) = none
 set : ∀ j t, dstAt ops j = some t → listed.getD j false = true → RepV ρ I w (vals j) (a.eval (.tmp t))
 unset : ∀ t, (∀ j, dstAt ops j = some t → listed.getD j false = false) → RepV ρ I w (fr0 t) (a.eval (.tmp t))
 defers : a.defers = []
 tsize : a.tmps.size = N
 low : ∀ o, o < n0 → ρ o = ρ0 o
theorem frames_at {vals : Nat → V} {G : Nat → Nat → V} (hc : Chk N ops) (hG : ∀ k o, ops[k]? = some o → G (k + 1) = putF (G k) o.dst (vals k)) :
  ∀ i, i ≤ ops.size → (∀ t j, dstAt ops j = some t → j < i → G i t = vals j) ∧ (∀ t, (∀ j, dstAt ops j = some t → i ≤ j) → G i t = G 0 t)
 | 0, _ => ⟨fun t j _ h => absurd h (Nat.not_lt_zero j), fun t _ => rfl⟩
 | i + 1, hi => by
  obtain ⟨ih1, ih2⟩ := frames_at hc hG i (by omega)
  have ho : ops[i]? = some ops[i] := Array.getElem?_eq_getElem (by omega)
  rw [hG i _ ho]
  refine ⟨fun t j hj hlt => ?_, fun t ht => ?_⟩
  ·by_cases hij : j = i
   ·subst hij
    have : ops[j].dst = some t := by simpa [dstAt, ho] using hj
    rw [this]; exact upd_same _ _ _
   ·have hne := hc.one i _ j t ho (Ne.symm hij) hj
    cases hd : ops[i].dst with
    | none => exact ih1 t j hj (by omega)
    | some s =>
     have : t ≠ s := fun e => hne (by rw [hd, e])
     exact (upd_ne _ _ this).trans (ih1 t j hj (by omega))
  ·cases hd : ops[i].dst with
   | none => exact ih2 t fun j hj => by have := ht j hj; omega
   | some s =>
    have : t ≠ s := fun e => by have := ht i (by simp [dstAt, ho, hd, e]); omega
    exact (upd_ne _ _ this).trans (ih2 t fun j hj => by have := ht j hj; omega)
theorem heaps_const {hs : Nat → Heap} {L : Nat} : ∀ n, (∀ k, L ≤ k → k < L + n → hs (k + 1) = hs k) → hs (L + n) = hs L
 | 0, _ => rfl
 | n + 1, h => by
  rw [← Nat.add_assoc, h (L + n) (by omega) (by omega)]
  exact heaps_const n fun k h1 h2 => h k h1 (by omega)
theorem ready_spec {listed : Array Bool} {i : Nat} (h : i ∈ Region.ready .any ops listed) (hs : listed.size = ops.size) :
  ∃ o, ops[i]? = some o ∧ listed.getD i false = false ∧ ∀ e ∈ o.after, Region.binds .any e = true → listed.getD e.on false = true := by
 unfold Region.ready at h
 rw [List.mem_filter] at h
 obtain ⟨h1, h2⟩ := h
 have hi : i < ops.size := by simpa using h1
 have ho : ops[i]? = some ops[i] := Array.getElem?_eq_getElem hi
 simp only [ho, Option.map_some, Option.getD_some, Bool.and_eq_true, Bool.not_eq_true', Array.all_eq_true_iff_forall_mem, Bool.or_eq_true] at h2
 refine ⟨_, ho, ?_, fun e he hb => ?_⟩
 ·have := h2.1
  rw [Array.getD_eq_getD_getElem?, Array.getElem?_eq_getElem (hs ▸ hi : i < listed.size)] at this ⊢
  exact this
 ·have := h2.2 e he
  simpa [hb] using this
theorem ready_least {listed : Array Bool} (hc : Chk N ops) (hs : listed.size = ops.size) (h : Region.ready .any ops listed = []) : ∀ i, i < ops.size → listed.getD i false = true := by
 intro i
 induction i using Nat.strongRecOn with
 | _ i ih =>
  intro hi
  have ho : ops[i]? = some ops[i] := Array.getElem?_eq_getElem hi
  cases hl : listed.getD i false with
  | true => rfl
  | false =>
   exfalso
   have : i ∈ Region.ready .any ops listed := by
    unfold Region.ready
    rw [List.mem_filter]
    refine ⟨by simpa using hi, ?_⟩
    simp only [ho, Option.map_some, Option.getD_some, Bool.and_eq_true, Bool.not_eq_true', Array.all_eq_true_iff_forall_mem, Bool.or_eq_true]
    refine ⟨?_, fun e he => ?_⟩
    ·rw [Array.getD_eq_getD_getElem?, Array.getElem?_eq_getElem (hs ▸ hi : i < listed.size)] at hl ⊢
     exact hl
    ·cases hb : Region.binds .any e with
     | false => exact .inl rfl
     | true => have := hc.edge i _ ho e he hb; exact .inr (ih e.on this (by omega))
   rw [h] at this; cases this
theorem getD_set {listed : Array Bool} {i j : Nat} (hi : i < listed.size) : (listed.setIfInBounds i true).getD j false = if j = i then true else listed.getD j false := by
 rw [Array.getD_eq_getD_getElem?, Array.getD_eq_getD_getElem?, Array.getElem?_setIfInBounds]
 by_cases h : j = i
 ·subst h; simp [hi]
 ·simp [h, Ne.symm h]
set_option maxHeartbeats 4000000 in
theorem ops_core [Glb] {Q : Exit → Act → World → Prop} {σ0 : Heap} {ρ0 : Nat → Option Nat} {I0 : Nat → Prop} {w0 : World} (hM : M = n0 + ops.size) (hc : Chk N ops) {fr0 : Nat → V} {vals : Nat → V} {hs : Nat → Heap} {G : Nat → Nat → V}
  (h0 : simpB ops = true → ∀ i, hs 0 (n0 + i) = none) (hx : ∀ k o, ops[k]? = some o → PlanX P ops n0 M k o (G k) (hs k) (vals k) (hs (k + 1))) (hG0 : G 0 = fr0) (D : Nat → Prop) (hD : ∀ k, D k → hs (k + 1) = hs k) (hplan : ∀ k o, ops[k]? = some o → (D k ∨ Planned P true n0 M ops k o (G k) (hs k) (vals k) (hs (k + 1))) ∧ G (k + 1) = putF (G k) o.dst (vals k)) :
  ((∀ ρ I a w, HeapOk (hs ops.size) ρ I w → (∀ o, M ≤ o → ρ o = none) → (∀ t, RepV ρ I w (G ops.size t) (a.eval (.tmp t))) → a.defers = [] → a.tmps.size = N → Step σ0 ρ0 I0 w0 (hs ops.size) ρ I w → (∀ o, o < n0 → ρ o = ρ0 o) → Q .normal a w) → ∀ (listed : Array Bool) (ρ : Nat → Option Nat) (I : Nat → Prop) (a : Act) (w : World), Inv N n0 M ops fr0 vals hs σ0 ρ0 I0 w0 listed ρ I a w → (∀ i, i < ops.size → listed.getD i false = true) → Q .normal a w) ∧
  (∀ (listed : Array Bool) (ρ : Nat → Option Nat) (I : Nat → Prop) (a : Act) (w : World), Inv N n0 M ops fr0 vals hs σ0 ρ0 I0 w0 listed ρ I a w → ∀ i ∈ Region.ready .any ops listed, ¬ D i → ∀ (K : Act → World → Prop),
   (∀ ρ' I' a' w', Inv N n0 M ops fr0 vals hs σ0 ρ0 I0 w0 (listed.setIfInBounds i true) ρ' I' a' w' → K a' w') → wpOp P ops Q i K a w) := by
 have hconst : ∀ k, k < ops.size → (∀ o, ops[k]? = some o → isW o.op = false) → hs (k + 1) = hs k := by
  intro k hk hw
  have ho : ops[k]? = some ops[k] := Array.getElem?_eq_getElem hk
  obtain ⟨h1, _⟩ := hplan k _ ho
  rcases h1 with hd | h1 | h1
  ·exact hD k hd
  ·exact (h1.2.2 rfl (hw _ ho)).1
  ·exact h1.2.2
 have hfr := frames_at hc (fun k o ho => (hplan k o ho).2)
 have halp : ∀ k, alB ops k = true → ∃ k', vals k = .ptr (n0 + k) k' 0 0 := fun k hk => by
  obtain ⟨hsi, o, ho, hg, ha⟩ := alB_ex hk
  exact ((hx k o ho hsi).1 hg ha).1
 have halz : ∀ k, alB ops k = true → ∃ o, ops[k]? = some o ∧ o.guard = none ∧ isW o.op = true ∧ ∃ z, hs (k + 1) = upd (hs k) (n0 + k) (some z) ∧ ∀ (G2 : Nat → V) (σ2 : Heap), OpW P o.op G2 σ2 M (n0 + k) (vals k) (upd σ2 (n0 + k) (some z)) := fun k hk => by
  obtain ⟨hsi, o, ho, hg, ha⟩ := alB_ex hk
  refine ⟨o, ho, hg, ?_, ((hx k o ho hsi).1 hg ha).2⟩
  obtain ⟨t, ht⟩ := isAl_ex ha
  rw [ht]; rfl
 have hnone : simpB ops = true → ∀ k, k ≤ ops.size → ∀ i, k ≤ i → hs k (n0 + i) = none := fun hsi k => by
  induction k with
  | zero => exact fun _ i _ => h0 hsi i
  | succ k ih =>
   intro hk i hi
   exact (hx k _ (Array.getElem?_eq_getElem (by omega : k < ops.size)) hsi).2.1 _ (by omega) (ih (by omega) i (by omega))
 have hlow : phB ops = true → ∀ p x, hs 0 p = some x → ∀ k, k ≤ ops.size → hs k p = some x := fun hph p x hp k => by
  have hpn : ∀ m, p ≠ n0 + m := fun m e => by rw [e, h0 (phB_simp hph)] at hp; cases hp
  induction k with
  | zero => exact fun _ => hp
  | succ k ih =>
   intro hk
   have hpk := ih (by omega)
   have ho : ops[k]? = some ops[k] := Array.getElem?_eq_getElem (by omega)
   cases hw : isW ops[k].op with
   | false => rw [hconst k (by omega) fun o ho' => by rw [ho] at ho'; cases ho'; exact hw]; exact hpk
   | true =>
    rcases (phB_ex hph ho hw).2 with ha | ha
    ·obtain ⟨_, _, _, _, z, hz, _⟩ := halz k ha
     rw [hz, upd_ne _ _ (hpn k)]; exact hpk
    ·obtain ⟨t, s, y, a, e, hak, haa, hds⟩ := tgtB_ex ha
     rcases (hx k _ ho (phB_simp hph)).2.2.1 t _ y e with h | ⟨q, k1, k2, k3, w, h1, h2, _⟩
     ·rw [h]; exact hpk
     ·obtain ⟨k', hv⟩ := halp a haa
      have hG : G k s = vals a := (hfr k (by omega)).1 s a hds hak
      have h1 : G k s = .ptr q k1 k2 k3 := h1
      rw [hG, hv] at h1
      cases h1
      rw [h2, upd_ne _ _ (hpn a)]; exact hpk
 have ext_end : ∀ listed, extH n0 ops hs ops.size listed = hs ops.size := fun listed => by
  funext o
  unfold extH
  refine joinH_none ?_
  unfold xH
  refine if_neg fun h => ?_
  have := alB_lt h.2.1
  omega
 have done : (∀ ρ I a w, HeapOk (hs ops.size) ρ I w → (∀ o, M ≤ o → ρ o = none) → (∀ t, RepV ρ I w (G ops.size t) (a.eval (.tmp t))) → a.defers = [] → a.tmps.size = N → Step σ0 ρ0 I0 w0 (hs ops.size) ρ I w → (∀ o, o < n0 → ρ o = ρ0 o) → Q .normal a w) → ∀ (listed : Array Bool) (ρ : Nat → Option Nat) (I : Nat → Prop) (a : Act) (w : World), Inv N n0 M ops fr0 vals hs σ0 ρ0 I0 w0 listed ρ I a w → (∀ i, i < ops.size → listed.getD i false = true) → Q .normal a w := by
  intro hQ listed ρ I a w inv hall
  obtain ⟨L, hL, h1, h2, h3, h3a⟩ := inv.heap
  have hLs : hs ops.size = extH n0 ops hs L listed := by
   have := ext_range (n0 := n0) (ops := ops) (hs := hs) (L := L) (listed := listed) (ops.size - L) fun k hk1 hk2 => by
    cases hal : alB ops k with
    | true =>
     obtain ⟨o, _, _, _, z, hz, _⟩ := halz k hal
     exact .inr ⟨rfl, hall k (by omega), z, hz⟩
    | false =>
     refine .inl ⟨rfl, hconst k (by omega) fun o ho => ?_⟩
     cases hw : isW o.op with
     | false => rfl
     | true => have := (h3 k o ho hw hal).1 (hall k (by omega)); omega
   rw [this, show L + (ops.size - L) = ops.size by omega, ext_end]
  refine hQ ρ I a w (hLs ▸ h1) inv.freshM (fun t => ?_) inv.defers inv.tsize (hLs ▸ h2) inv.low
  by_cases ht : ∃ j, dstAt ops j = some t
  ·obtain ⟨j, hj⟩ := ht
   have hjs : j < ops.size := by
    rcases Nat.lt_or_ge j ops.size with h | h
    ·exact h
    ·simp [dstAt, Array.getElem?_eq_none h] at hj
   rw [(hfr ops.size (Nat.le_refl _)).1 t j hj hjs]
   exact inv.set j t hj (hall j hjs)
  ·rw [(hfr ops.size (Nat.le_refl _)).2 t (fun j hj => absurd ⟨j, hj⟩ ht), hG0]
   exact inv.unset t fun j hj => absurd ⟨j, hj⟩ ht
 have step : ∀ (listed : Array Bool) (ρ : Nat → Option Nat) (I : Nat → Prop) (a : Act) (w : World), Inv N n0 M ops fr0 vals hs σ0 ρ0 I0 w0 listed ρ I a w → ∀ i ∈ Region.ready .any ops listed, ¬ D i → ∀ (K : Act → World → Prop),
   (∀ ρ' I' a' w', Inv N n0 M ops fr0 vals hs σ0 ρ0 I0 w0 (listed.setIfInBounds i true) ρ' I' a' w' → K a' w') → wpOp P ops Q i K a w := by
  intro listed ρ I a w inv i hi hDi K hK
  obtain ⟨o, ho, hni, hready⟩ := ready_spec hi inv.lsize
  have hilt : i < ops.size := (Array.getElem?_eq_some_iff.1 ho).1
  have hil : i < listed.size := by rw [inv.lsize]; exact hilt
  have before : ∀ j, ancB ops ops.size i j = true → listed.getD j false = true := fun j h => anc_listed inv.down _ i j h fun o' ho' => by rw [ho] at ho'; cases ho'; exact hready
  have behind : ∀ j, ancB ops ops.size j i = true → listed.getD j false = false := fun j h => by
   cases hl : listed.getD j false with
   | false => rfl
   | true => rw [anc_listed inv.down _ j i h fun o' ho' => inv.down j o' ho' hl] at hni; cases hni
  have dlt : ∀ j t, dstAt ops j = some t → j < ops.size := fun j t hj => by
   rcases Nat.lt_or_ge j ops.size with h | h
   ·exact h
   ·simp [dstAt, Array.getElem?_eq_none h] at hj
  -- what the operation looks at is what is planned
  have look : ∀ t, t ∈ o.looksAt ops → RepV ρ I w (G i t) (a.eval (.tmp t)) := by
   intro t ht
   by_cases hw : ∃ j, j ≠ i ∧ dstAt ops j = some t
   ·obtain ⟨j, hji, hj⟩ := hw
    have := hc.look i o j t ho (Ne.symm hji) hj ht
    simp only [orderedB, Bool.or_eq_true, Bool.and_eq_true, decide_eq_true_eq] at this
    rcases this with ⟨h1, h2⟩ | ⟨h1, h2⟩
    ·rw [(hfr i (by omega)).1 t j hj h1]; exact inv.set j t hj (before j h2)
    ·have huniq : ∀ j', dstAt ops j' = some t → j' = j := fun j' hj' => by
      rcases Nat.decEq j' j with h | h
      ·exfalso
       have hoj : ops[j]? = some (ops[j]'(dlt j t hj)) := Array.getElem?_eq_getElem (dlt j t hj)
       exact hc.one j _ j' t hoj (Ne.symm h) hj' (by simpa [dstAt, hoj] using hj)
      ·exact h
     rw [(hfr i (by omega)).2 t (fun j' hj' => by rw [huniq j' hj']; omega), hG0]
     exact inv.unset t fun j' hj' => by rw [huniq j' hj']; exact behind j h2
   ·have hnot : ∀ j, dstAt ops j = some t → j = i := fun j hj => by
     rcases Nat.decEq j i with h | h
     ·exact absurd ⟨j, h, hj⟩ hw
     ·exact h
    rw [(hfr i (by omega)).2 t (fun j hj => by rw [hnot j hj]; omega), hG0]
    exact inv.unset t fun j hj => by rw [hnot j hj]; exact hni
  have hops : OkOn (G i) ρ I w a o.op.operands := fun t ht => look t (by
   unfold Oper.looksAt
   refine List.mem_append.2 (.inl (List.mem_filterMap.2 ⟨.tmp t, by simpa using ht, rfl⟩)))
  obtain ⟨L, hL, h1, h2, h3, h3a⟩ := inv.heap
  -- the heap that is planned, where the operation looks at it
  have hheap : alB ops i = false → loB ops ≤ i → slotOnly o.op = false ∨ isW o.op = true → extH n0 ops hs L listed = extH n0 ops hs i listed := by
   intro hai hloi hor
   have hno : slotOnly o.op = false := by
    rcases hor with h | h
    ·exact h
    ·exact isW_slot h
   have hord : ∀ j oj, ops[j]? = some oj → j ≠ i → isW oj.op = true → alB ops j = false → (j < i → j < L) ∧ (i < j → L ≤ j) := by
    intro j oj hj hji hw haj
    have := hc.heap j oj i o hj ho hji hw hno haj hai hloi
    simp only [orderedB, Bool.or_eq_true, Bool.and_eq_true, decide_eq_true_eq] at this
    have hjl := h3 j oj hj hw haj
    rcases this with ⟨k1, k2⟩ | ⟨k1, k2⟩
    ·refine ⟨fun h => by omega, fun _ => ?_⟩
     have := behind j k2
     rw [this] at hjl
     have : ¬ j < L := fun h => by simpa using hjl.2 h
     omega
    ·exact ⟨fun _ => hjl.1 (before j k2), fun h => by omega⟩
   have hal : ∀ j, alB ops j = true → j < i → listed.getD j false = true := fun j haj hji => by
    obtain ⟨oj, hj, _, hw, _⟩ := halz j haj
    exact before j (hc.heapA j oj i o hj ho (by omega) hw hno haj hai hloi hji)
   rcases Nat.le_total L i with hle | hle
   ·have := ext_range (n0 := n0) (ops := ops) (hs := hs) (L := L) (listed := listed) (i - L) fun k hk1 hk2 => by
     cases hak : alB ops k with
     | true =>
      obtain ⟨_, _, _, _, z, hz, _⟩ := halz k hak
      exact .inr ⟨rfl, hal k hak (by omega), z, hz⟩
     | false =>
      refine .inl ⟨rfl, hconst k (by omega) fun oj hj => ?_⟩
      cases hw : isW oj.op with
      | false => rfl
      | true => have := (hord k oj hj (by omega) hw hak).1 (by omega); omega
    rw [this, show L + (i - L) = i by omega]
   ·-- between i and L no other writer stands; i itself is not listed
    have := ext_range (n0 := n0) (ops := ops) (hs := hs) (L := i) (listed := listed) (L - i) fun k hk1 hk2 => by
     cases hak : alB ops k with
     | true =>
      obtain ⟨_, _, _, _, z, hz, _⟩ := halz k hak
      exact .inr ⟨rfl, h3a k hak (by omega), z, hz⟩
     | false =>
      refine .inl ⟨rfl, hconst k (by omega) fun oj hj => ?_⟩
      cases hw : isW oj.op with
      | false => rfl
      | true =>
       rcases Nat.decEq k i with h | h
       ·have := (hord k oj hj h hw hak).2 (by omega); omega
       ·subst h
        have := (h3 k oj hj hw hak).2 (by omega)
        rw [hni] at this; cases this
    rw [this, show i + (L - i) = L by omega]
  have hset : ∀ m, m ≠ i → (listed.setIfInBounds i true).getD m false = listed.getD m false := fun m hm => by rw [getD_set hil, if_neg hm]
  have hseti : (listed.setIfInBounds i true).getD i false = true := by rw [getD_set hil, if_pos rfl]
  have hL' : alB ops i = false → isW o.op = true → extH n0 ops hs L listed = extH n0 ops hs i listed ∧ (∀ (j : Nat) (oj : Oper), ops[j]? = some oj → isW oj.op = true → alB ops j = false → ((listed.setIfInBounds i true).getD j false = true ↔ j < i + 1)) ∧ ∀ j, alB ops j = true → j < i + 1 → (listed.setIfInBounds i true).getD j false = true := by
   intro hai hw
   have hno : slotOnly o.op = false := isW_slot hw
   have hloi := lo_W ho hw
   refine ⟨hheap hai hloi (.inr hw), fun j oj hj hwj haj => ?_, fun j haj hji => ?_⟩
   ·rw [getD_set hil]
    rcases Nat.decEq j i with h | h
    ·rw [if_neg h]
     have := hc.heap j oj i o hj ho h hwj hno haj hai hloi
     simp only [orderedB, Bool.or_eq_true, Bool.and_eq_true, decide_eq_true_eq] at this
     rcases this with ⟨k1, k2⟩ | ⟨k1, k2⟩
     ·rw [behind j k2]; exact ⟨(fun h => by cases h), fun h => by omega⟩
     ·rw [before j k2]; exact ⟨fun _ => by omega, fun _ => rfl⟩
    ·rw [if_pos h]; exact ⟨fun _ => by omega, fun _ => rfl⟩
   ·have hji' : j ≠ i := fun e => by rw [e, hai] at haj; cases haj
    obtain ⟨oj, hj, _, hwj, _⟩ := halz j haj
    rw [hset j hji']
    exact before j (hc.heapA j oj i o hj ho hji' hwj hno haj hai hloi (by omega))
  -- a new place in the frame
  have next : ∀ (σ' : Heap) (v : V) (c : Value) (ρ' : Nat → Option Nat) (I' : Nat → Prop) (w' : World), v = vals i → Step (extH n0 ops hs L listed) ρ I w σ' ρ' I' w' → HeapOk σ' ρ' I' w' → (∀ x, x ≠ n0 + i → ρ' x = ρ x) → RepV ρ' I' w' v c →
    (∃ L', L' ≤ ops.size ∧ σ' = extH n0 ops hs L' (listed.setIfInBounds i true) ∧ (∀ (j : Nat) (oj : Oper), ops[j]? = some oj → isW oj.op = true → alB ops j = false → ((listed.setIfInBounds i true).getD j false = true ↔ j < L')) ∧ ∀ j, alB ops j = true → j < L' → (listed.setIfInBounds i true).getD j false = true) → K (a.put o.dst c) w' := by
   rintro σ' v c ρ' I' w' rfl hs' hh' hid hv ⟨L', hle', rfl, hw'⟩
   have hdo := hc.dst i o ho
   refine hK ρ' I' _ w' ⟨?_, by simpa using inv.lsize, ⟨L', hle', hh', h2.trans hs', hw'⟩, fun m hm => by rw [hid m (by omega)]; exact inv.freshM m hm, fun j hj hjl => ?_, fun j t hj hjl => ?_, fun t ht => ?_, put_defers.trans inv.defers, put_size.trans inv.tsize, fun m hm => (hid m (by omega)).trans (inv.low m hm)⟩
   ·intro j oj hj hjl e he hb
    rw [getD_set hil] at hjl ⊢
    split
    ·rfl
    ·rcases Nat.decEq j i with h | h
     ·rw [if_neg h] at hjl; exact inv.down j oj hj hjl e he hb
     ·subst h; rw [ho] at hj; cases hj; exact hready e he hb
   ·rw [getD_set hil] at hjl
    split at hjl
    ·cases hjl
    ·next h => rw [hid _ (by omega)]; exact inv.fresh j hj hjl
   ·rw [getD_set hil] at hjl
    rcases Nat.decEq j i with h | h
    ·rw [if_neg h] at hjl
     have hne := hc.one i o j t ho (Ne.symm h) hj
     have := frame_put (fr := fun s => if s = t then vals j else .any) (fun s => by
      by_cases hst : s = t
      ·subst hst; rw [if_pos rfl]; exact hs'.rep h1 (inv.set j s hj hjl)
      ·rw [if_neg hst]; exact .any _) inv.tsize hdo hv t
     cases hd : o.dst with
     | none => rw [hd] at this; simpa [putF] using this
     | some s =>
      have hts : t ≠ s := fun e => hne (by rw [hd, e])
      rw [hd] at this
      simpa [putF, upd_ne _ _ hts] using this
    ·subst h
     have hd : o.dst = some t := by simpa [dstAt, ho] using hj
     have := frame_put (fr := fun _ => .any) (fun s => .any _) inv.tsize hdo hv t
     rw [hd] at this ⊢
     simpa [putF, upd_same] using this
   ·have hti : o.dst ≠ some t := fun e => by
     have := ht i (by simp [dstAt, ho, e])
     rw [getD_set hil, if_pos rfl] at this; cases this
    have := frame_put (fr := fun s => if s = t then fr0 t else .any) (fun s => by
     by_cases hst : s = t
     ·subst hst; rw [if_pos rfl]
      refine hs'.rep h1 (inv.unset s fun j hj => ?_)
      have hj' := ht j hj
      rw [getD_set hil] at hj'
      split at hj'
      ·cases hj'
      ·exact hj'
     ·rw [if_neg hst]; exact .any _) inv.tsize hdo hv t
    cases hd : o.dst with
    | none => rw [hd] at this; simpa [putF] using this
    | some s =>
     have hts : t ≠ s := fun e => hti (by rw [hd, e])
     rw [hd] at this
     simpa [putF, upd_ne _ _ hts] using this
  have hkeepL : isW o.op = false ∨ alB ops i = true → (∀ (j : Nat) (oj : Oper), ops[j]? = some oj → isW oj.op = true → alB ops j = false → ((listed.setIfInBounds i true).getD j false = true ↔ j < L)) ∧ ∀ j, alB ops j = true → j < L → (listed.setIfInBounds i true).getD j false = true := fun hw => by
   refine ⟨fun j oj hj hwj haj => ?_, fun j haj hjl => ?_⟩
   ·have hji : j ≠ i := fun e => by
     subst e; rw [ho] at hj; cases hj
     rcases hw with hw | hw
     ·rw [hw] at hwj; cases hwj
     ·rw [hw] at haj; cases haj
    rw [hset j hji]; exact h3 j oj hj hwj haj
   ·rw [getD_set hil]
    split
    ·rfl
    ·exact h3a j haj hjl
  have hnW : isW o.op = false → alB ops i = false := fun hw => by
   cases ha : alB ops i with
   | false => rfl
   | true =>
    obtain ⟨o', ho', _, hw', _⟩ := halz i ha
    rw [ho] at ho'; cases ho'; rw [hw] at hw'; cases hw'
  have stay : isW o.op = false → extH n0 ops hs L listed = extH n0 ops hs L (listed.setIfInBounds i true) := fun hw => by
   unfold extH; rw [xH_same (hnW hw) hset]
  unfold wpOp
  simp only [ho]
  obtain ⟨hp, _⟩ := hplan i o ho
  have hp := hp.resolve_left hDi
  have hguard : ∀ j want t b, o.guard = some (j, want) → dstAt ops j = some t → G i t = .d (.val (.bool b)) → Region.wanted o (yielded ops a.tmps) = (b == want) := by
   intro j want t b hg ht hb
   have hlook : t ∈ o.looksAt ops := by
    unfold Oper.looksAt
    refine List.mem_append.2 (.inr ?_)
    simp only [hg]
    unfold dstAt at ht
    simp [ht]
   have hoj : ops[j]? = some (ops[j]'(dlt j t ht)) := Array.getElem?_eq_getElem (dlt j t ht)
   have hdj := hc.dst j _ hoj
   have : (ops[j]'(dlt j t ht)).dst = some t := by simpa [dstAt, hoj] using ht
   rw [this] at hdj
   exact wanted_true inv.tsize hg ht (by simpa [dstOk] using hdj) (hb ▸ look t hlook)
  have hoff : ∀ j want t, o.guard = some (j, want) → dstAt ops j = some t → offV (G i t) want → Region.wanted o (yielded ops a.tmps) = false := by
   intro j want t hg ht hb
   have hlook : t ∈ o.looksAt ops := by
    unfold Oper.looksAt
    refine List.mem_append.2 (.inr ?_)
    simp only [hg]
    unfold dstAt at ht
    simp [ht]
   have hoj : ops[j]? = some (ops[j]'(dlt j t ht)) := Array.getElem?_eq_getElem (dlt j t ht)
   have hdj := hc.dst j _ hoj
   have : (ops[j]'(dlt j t ht)).dst = some t := by simpa [dstAt, hoj] using ht
   rw [this] at hdj
   exact wanted_off inv.tsize hg ht (by simpa [dstOk] using hdj) (look t hlook) hb
  rcases hp with ⟨hw, hopw, hopp⟩ | ⟨⟨j, want, t, hg, ht, hbw⟩, hv, hσ⟩
  ·have hwant : Region.wanted o (yielded ops a.tmps) = true := by
    rcases hw with hw | ⟨j, want, t, hg, ht, hb⟩
    ·simp [Region.wanted, hw]
    ·rw [hguard j want t want hg ht hb]; simp
   rw [if_pos hwant]
   refine .inl ?_
   cases hai : alB ops i with
   | true =>
    obtain ⟨o', ho', _, _, z, hz, hop⟩ := halz i hai
    rw [ho] at ho'; cases ho'
    have hLi : L ≤ i := by
     rcases Nat.lt_or_ge i L with h | h
     ·rw [h3a i hai h] at hni; cases hni
     ·exact h
    refine hop (G i) (extH n0 ops hs L listed) o rfl ρ I a w h1 inv.freshM (inv.fresh i hilt hni) hops K Q fun c ρ' I' w' hs' hh' hid hv' => next _ _ c ρ' I' w' rfl hs' hh' hid hv' ⟨L, hL, (ext_new hai hLi hset hseti hz).symm, hkeepL (.inr hai)⟩
   | false =>
   cases hisw : isW o.op with
   | true =>
    obtain ⟨e1, e2⟩ := hL' hai hisw
    have hfrm : OpW P o.op (G i) (extH n0 ops hs i listed) M (n0 + i) (vals i) (extH n0 ops hs (i + 1) (listed.setIfInBounds i true)) := by
     have := hopw.frame (xH n0 ops hs i listed) fun p x hp => by
      obtain ⟨m, rfl, hm, hmi, hml, _⟩ := xH_some hp
      have hne : m ≠ i := fun e => by rw [e, hai] at hm; cases hm
      have hsi := (alB_ex hm).1
      exact ⟨by omega, hnone hsi i (by omega) m hmi, hnone hsi (i + 1) hilt m (by omega)⟩
     unfold extH
     rw [xH_move hai hset]
     exact this
    rw [← e1] at hfrm
    exact hfrm o rfl ρ I a w h1 inv.freshM (inv.fresh i hilt hni) hops K Q fun c ρ' I' w' hs' hh' hid hv' => next _ _ c ρ' I' w' rfl hs' hh' hid hv' ⟨i + 1, hilt, rfl, e2⟩
   | false =>
    obtain ⟨e1, e2, e3⟩ := hopp rfl hisw
    have hP : OpP P o.op (G i) (extH n0 ops hs L listed) (vals i) := by
     cases hso : slotOnly o.op with
     | true => exact e3 hso _
     | false =>
      rcases Nat.lt_or_ge i (loB ops) with hlt | hge
      ·obtain ⟨hph, hia⟩ := lo_ph hlt
       have e0 : ∀ k, k ≤ i → hs k = hs 0 := fun k => by
        induction k with
        | zero => exact fun _ => rfl
        | succ k ih =>
         intro hk
         rw [hconst k (by omega) fun o' ho' => ?_]
         ·exact ih (by omega)
         ·cases hw' : isW o'.op with
          | false => rfl
          | true => have := (phB_ex hph ho' hw').1; omega
       rw [e0 i (Nat.le_refl _)] at e2
       refine e2.more fun p x hp => ?_
       unfold extH
       cases hxp : xH n0 ops hs L listed p with
       | none => rw [joinH_none hxp]; exact hlow hph p x hp L hL
       | some y =>
        obtain ⟨m, rfl, _⟩ := xH_some hxp
        rw [h0 (phB_simp hph)] at hp; cases hp
      rw [hheap hai hge (.inl hso)]
      refine e2.more fun p x hp => ?_
      unfold extH
      cases hxp : xH n0 ops hs i listed p with
      | none => rw [joinH_none hxp]; exact hp
      | some y =>
       obtain ⟨m, rfl, hm, hmi, _⟩ := xH_some hxp
       rw [hnone (alB_ex hm).1 i (by omega) m hmi] at hp; cases hp
    exact hP o rfl ρ I a w h1 hops K Q fun c I' w' p hv' => next (extH n0 ops hs L listed) _ c ρ I' w' rfl p.step (h1.pure p) (fun _ _ => rfl) hv' ⟨L, hL, stay hisw, hkeepL (.inl hisw)⟩
  ·have hwant : Region.wanted o (yielded ops a.tmps) = false := hoff j want t hg ht hbw
   rw [if_neg (by simp [hwant])]
   have hai : alB ops i = false := by
    cases ha : alB ops i with
    | false => rfl
    | true =>
     obtain ⟨_, o', ho', hg', _⟩ := alB_ex ha
     rw [ho] at ho'; cases ho'; rw [hg] at hg'; cases hg'
   cases hisw : isW o.op with
   | true =>
    obtain ⟨e1, e2⟩ := hL' hai hisw
    have e3 : extH n0 ops hs L listed = extH n0 ops hs (i + 1) (listed.setIfInBounds i true) := by
     rw [e1]; unfold extH; rw [xH_move hai hset, hσ]
    exact next (extH n0 ops hs L listed) _ undef ρ I w rfl (Step.refl _ _ _ _) h1 (fun _ _ => rfl) (hv ▸ undef_rep) ⟨i + 1, hilt, e3, e2⟩
   | false => exact next (extH n0 ops hs L listed) _ undef ρ I w rfl (Step.refl _ _ _ _) h1 (fun _ _ => rfl) (hv ▸ undef_rep) ⟨L, hL, stay hisw, hkeepL (.inl hisw)⟩
 exact ⟨done, step⟩
theorem ops_any [Glb] {Q : Exit → Act → World → Prop} {σ0 : Heap} {ρ0 : Nat → Option Nat} {I0 : Nat → Prop} {w0 : World} (hM : M = n0 + ops.size) (hc : Chk N ops) {fr0 : Nat → V} {vals : Nat → V} {hs : Nat → Heap} {G : Nat → Nat → V}
  (h0 : ∀ i, hs 0 (n0 + i) = none) (hx : ∀ k o, ops[k]? = some o → PlanX P ops n0 M k o (G k) (hs k) (vals k) (hs (k + 1))) (hG0 : G 0 = fr0) (hplan : ∀ k o, ops[k]? = some o → Planned P true n0 M ops k o (G k) (hs k) (vals k) (hs (k + 1)) ∧ G (k + 1) = putF (G k) o.dst (vals k))
  (hQ : ∀ ρ I a w, HeapOk (hs ops.size) ρ I w → (∀ o, M ≤ o → ρ o = none) → (∀ t, RepV ρ I w (G ops.size t) (a.eval (.tmp t))) → a.defers = [] → a.tmps.size = N → Step σ0 ρ0 I0 w0 (hs ops.size) ρ I w → (∀ o, o < n0 → ρ o = ρ0 o) → Q .normal a w) :
  ∀ (fuel : Nat) (listed : Array Bool) (ρ : Nat → Option Nat) (I : Nat → Prop) (a : Act) (w : World), Inv N n0 M ops fr0 vals hs σ0 ρ0 I0 w0 listed ρ I a w → ((List.range ops.size).filter fun i => !listed.getD i false).length ≤ fuel →
   wpAny P .any ops Q fuel listed a w := by
 obtain ⟨done, step⟩ := ops_core (Q := Q) (σ0 := σ0) (ρ0 := ρ0) (I0 := I0) (w0 := w0) hM hc (fun _ => h0) hx hG0 (fun _ => False) (fun _ h => h.elim) (fun k o ho => ⟨.inr (hplan k o ho).1, (hplan k o ho).2⟩)
 have done := done hQ
 intro fuel
 induction fuel with
 | zero =>
  intro listed ρ I a w inv hf
  have hnil : (List.range ops.size).filter (fun i => !listed.getD i false) = [] := List.eq_nil_of_length_eq_zero (by omega)
  have hall : ∀ i, i < ops.size → listed.getD i false = true := fun i hi => by
   rw [List.filter_eq_nil_iff] at hnil
   simpa using hnil i (by simpa using hi)
  refine ⟨?_, done listed ρ I a w inv hall⟩
  rw [List.eq_nil_iff_forall_not_mem]
  intro i hi
  obtain ⟨o, ho, hni, _⟩ := ready_spec hi inv.lsize
  rw [hall i (Array.getElem?_eq_some_iff.1 ho).1] at hni; cases hni
 | succ fuel ih =>
  intro listed ρ I a w inv hf
  refine ⟨fun hr => done listed ρ I a w inv (ready_least hc inv.lsize hr), fun i hi => step listed ρ I a w inv i hi (fun h => h) _ fun ρ' I' a' w' inv' => ih _ ρ' I' a' w' inv' ?_⟩
  obtain ⟨o, ho, hni, _⟩ := ready_spec hi inv.lsize
  have hilt : i < ops.size := (Array.getElem?_eq_some_iff.1 ho).1
  have hil : i < listed.size := by rw [inv.lsize]; exact hilt
  have hlt : ((List.range ops.size).filter fun j => !(listed.setIfInBounds i true).getD j false).length < ((List.range ops.size).filter fun j => !listed.getD j false).length := by
   have hsub : (List.range ops.size).filter (fun j => !(listed.setIfInBounds i true).getD j false) = ((List.range ops.size).filter fun j => !listed.getD j false).filter (fun j => decide (j ≠ i)) := by
    rw [List.filter_filter]
    apply List.filter_congr
    intro j _
    rw [getD_set hil]
    by_cases h : j = i <;> simp [h]
   rw [hsub]
   have hmem : i ∈ (List.range ops.size).filter fun j => !listed.getD j false := List.mem_filter.2 ⟨by simpa using hilt, by simp [hni]⟩
   exact List.length_filter_lt_length_iff_exists.2 ⟨i, hmem, by simp⟩
  omega
end
end Go.Iso
namespace Go.Iso
open Go Go.RowKit
set_option linter.unusedSimpArgs false
set_option linter.unusedVariables false
def condK (c : V) (A B : Unit → Prop) : Prop := match c with | .d (.val (.bool t)) => (t = true → A ()) ∧ (t = false → B ()) | _ => False
def vc [Glb] (P : Program) (N B : Nat) : Code → (Exit → St → Prop) → St → Prop
 | .skip, Q, st => Q .normal st
 | .region _ ops dr, Q, st => vcOps P dr st.n (st.n + ops.size) ops ops.toList 0 st.fr st.σ (Later (Hold fun fr σ => Q .normal ⟨fr, σ, st.n + ops.size⟩))
 | .seq x y, Q, st => vc P N B x (thenQ (Later (Hold fun s => vc P N B y Q s)) Q) st
 | .cond c x y, Q, st => condK (evO st.fr c) (Later (Hold fun _ => vc P N B x Q st)) (Later (Hold fun _ => vc P N B y Q st))
 | .block id c, Q, st => vc P N B c (blockQ id Q) st
 | .exit id, Q, st => Q (.exit id) st
 | .ret, Q, st => Q .ret st
 | .loop c, Q, st => AW P N B (.loop c) Q st
 | _, _, _ => False
def okB (N : Nat) : Code → Bool
 | .region _ ops dr => (ops.all fun o => dstOk N o.dst) && (!dr || chkB N ops)
 | .seq x y => okB N x && okB N y
 | .cond _ x y => okB N x && okB N y
 | .block _ c => okB N c
 | .loop c => okB N c
 | _ => true
section
variable {P : Program} {N B : Nat}
theorem drew_pure {I : Nat → Prop} {w : World} (n : Nat) (h : ∀ b, I b → b < w.heap.size) : Pure I w I { w with drawn := n } :=
 ⟨⟨rfl, rfl, rfl, Nat.le_refl _, fun _ _ => rfl⟩, fun _ h => h, fun _ h => .inl h, h⟩
theorem AW.region [Glb] (hm : P.follows .mixedOrders = true) {Q : Exit → St → Prop} {st : St} {id : Nat} {ops : Array Oper} {dr : Bool} (hok : okB N (.region id ops dr) = true)
  (h : vcOps P dr st.n (st.n + ops.size) ops ops.toList 0 st.fr st.σ fun fr σ => Q .normal ⟨fr, σ, st.n + ops.size⟩) : AW P N B (.region id ops dr) Q st := by
 intro ρ I a w hc
 simp only [okB, Bool.and_eq_true, Bool.or_eq_true, Bool.not_eq_true'] at hok
 have hdst : ∀ i t, dstAt ops i = some t → t < N := fun i t hi => by
  unfold dstAt at hi
  cases ho : ops[i]? with
  | none => simp [ho] at hi
  | some o =>
   simp only [ho, Option.bind_some] at hi
   have := hok.1
   rw [Array.all_eq_true_iff_forall_mem] at this
   have := this o (Array.mem_of_getElem? ho)
   rw [hi] at this
   simpa [dstOk] using this
 have fin : ∀ fr σ ρ' I' a' w', Q .normal ⟨fr, σ, st.n + ops.size⟩ → HeapOk σ ρ' I' w' → (∀ o, st.n + ops.size ≤ o → ρ' o = none) → (∀ t, RepV ρ' I' w' (fr t) (a'.eval (.tmp t))) → a'.defers = [] → a'.tmps.size = N → Step st.σ ρ I w σ ρ' I' w' → (∀ o, o < st.n → ρ' o = ρ o) →
   ∃ st' ρ' I', Q .normal st' ∧ Conc N B st' ρ' I' a' w' ∧ Frame B st.σ ρ I w st'.σ ρ' I' w' := by
  intro fr σ ρ' I' a' w' hq hh hf hfr hd hN hs hlow
  exact ⟨⟨fr, σ, st.n + ops.size⟩, ρ', I', hq, ⟨hh, hf, hfr, hd, hN, by have := hc.base; show B ≤ st.n + ops.size; omega⟩, ⟨hs.toKept, fun o ho => hlow o (by have := hc.base; omega)⟩⟩
 cases dr with
 | false =>
  refine wp_region ?_
  have := ops_seq (P := P) (ops := ops) (N := N) (n0 := st.n) (M := st.n + ops.size) (dr := false) (σ0 := st.σ) (ρ0 := ρ) (I0 := I) (w0 := w) rfl (K := fun fr σ => Q .normal ⟨fr, σ, st.n + ops.size⟩)
   (Q := fun e a' w' => ∃ st' ρ' I', Q e st' ∧ Conc N B st' ρ' I' a' w' ∧ Frame B st.σ ρ I w st'.σ ρ' I' w') hdst
   (fun fr σ ρ' I' a' w' hk hh hf hfr hd hN hs hlow => fin fr σ ρ' I' a' w' hk hh hf hfr hd hN hs hlow) ops.toList 0 st.fr st.σ ρ I a w (Nat.zero_le _) rfl h hc.heap (fun o ho => hc.fresh o (by omega)) hc.frame hc.defers hc.size (Step.refl _ _ _ _) (fun _ _ => rfl)
  simpa using this
 | true =>
  refine wp_region_any hm ?_
  have hchk := chk_of (hok.2.resolve_left (by simp))
  obtain ⟨vals, hs, G, h1, h2, h3, h4⟩ := vcOps_plan ops.toList 0 st.fr st.σ (fun o ho => by simpa using ho) h
  have p := drew_pure (w := w) (w.drawn + 1) hc.heap.lt
  have hplan : ∀ k o, ops[k]? = some o → (Planned P true st.n (st.n + ops.size) ops k o (G k) (hs k) (vals k) (hs (k + 1)) ∧ PlanX P ops st.n (st.n + ops.size) k o (G k) (hs k) (vals k) (hs (k + 1))) ∧ G (k + 1) = putF (G k) o.dst (vals k) := by
   intro k o ho
   obtain ⟨hk, rfl⟩ := Array.getElem?_eq_some_iff.1 ho
   have := h3 k (by simpa using hk)
   simpa using this
  simp only [Nat.zero_add, Array.length_toList] at h4
  have hnoneσ : ∀ i, st.σ (st.n + i) = none := fun i => by
   cases hx : st.σ (st.n + i) with
   | none => rfl
   | some x =>
    obtain ⟨b, _, _, hb, _⟩ := hc.heap.own _ _ hx
    rw [hc.fresh _ (by omega)] at hb; cases hb
  have hext : extH st.n ops hs 0 (Array.replicate ops.size false) = st.σ := by
   funext o
   unfold extH
   rw [h1]
   refine joinH_none ?_
   unfold xH
   refine if_neg fun h => ?_
   rw [getD_replicate] at h; cases h.2.2.2
  refine ops_any (P := P) (N := N) (n0 := st.n) (M := st.n + ops.size) (σ0 := st.σ) (ρ0 := ρ) (I0 := I) (w0 := w) rfl hchk (fr0 := st.fr) (vals := vals) (hs := hs) (G := G) (fun i => by rw [h1]; exact hnoneσ i) (fun k o ho => (hplan k o ho).1.2) h2 (fun k o ho => ⟨(hplan k o ho).1.1, (hplan k o ho).2⟩)
   (fun ρ' I' a' w' hh hf hfr hd hN hs' hlow => fin _ _ ρ' I' a' w' h4 hh hf hfr hd hN hs' hlow) ops.size _ ρ I a _ ?_ ?_
  ·refine ⟨fun i o ho hl => ?_, by simp, ⟨0, Nat.zero_le _, hext ▸ hc.heap.pure p, hext ▸ p.step, fun i o ho hw _ => ?_, fun i _ h => absurd h (Nat.not_lt_zero i)⟩, fun m hm' => hc.fresh m (by omega), fun i hi _ => hc.fresh _ (by omega), fun j t hj hl => ?_, fun t _ => p.step.rep hc.heap (hc.frame t), hc.defers, hc.size, fun _ _ => rfl⟩
   ·rw [getD_replicate] at hl; cases hl
   ·rw [getD_replicate]; exact ⟨fun h => (by cases h), fun h => absurd h (Nat.not_lt_zero i)⟩
   ·rw [getD_replicate] at hl; cases hl
  ·exact Nat.le_trans (List.length_filter_le _ _) (by simp)
where
 getD_replicate {m j : Nat} : (Array.replicate m false).getD j false = false := by
  rw [Array.getD_eq_getD_getElem?, Array.getElem?_replicate]; split <;> rfl
theorem vc_sound [Glb] (hm : P.follows .mixedOrders = true) : ∀ (c : Code) (Q : Exit → St → Prop) (st : St), okB N c = true → vc P N B c Q st → AW P N B c Q st
 | .skip, Q, st, _, h => AW.skip h
 | .region id ops dr, Q, st, hok, h => AW.region hm hok h
 | .seq x y, Q, st, hok, h => by
  simp only [okB, Bool.and_eq_true] at hok
  refine AW.seq ((vc_sound hm x _ st hok.1 h).mono fun e s hs => ?_)
  cases e with
  | normal => exact vc_sound hm y Q s hok.2 hs
  | _ => exact hs
 | .cond c x y, Q, st, hok, h => by
  simp only [okB, Bool.and_eq_true] at hok
  unfold vc condK at h
  split at h
  ·next t ht => exact AW.cond ht (fun e => vc_sound hm x Q st hok.1 (h.1 e)) (fun e => vc_sound hm y Q st hok.2 (h.2 e))
  ·exact h.elim
 | .block id c, Q, st, hok, h => AW.block (vc_sound hm c _ st hok h)
 | .exit id, Q, st, _, h => AW.exit h
 | .ret, Q, st, _, h => AW.ret h
 | .loop c, Q, st, _, h => h
 | .rangeFunc .., _, _, _, h => h.elim
 | .scope _, _, _, _, h => h.elim
 | .label _, _, _, _, h => h.elim
 | .goto _, _, _, _, h => h.elim
 | .refuse _, _, _, _, h => h.elim
/-! ### Results -/
def oneR (P : Program) (st : St) (r : ResultVar) (K : V → Prop) : Prop :=
 match r with
 | .tmp t => moveK (st.fr t) K
 | .cell x t => loadK (aggOf P t) (szOf P t) st.σ (st.fr x) K
def resK (P : Program) (st : St) (rs : List ResultVar) (K : V → Prop) : Prop :=
 match rs with
 | [] => K (.tup [])
 | [r] => oneR P st r K
 | [r, s] => oneR P st r (Later (Hold fun v => oneR P st s (Later (Hold fun u => K (.tup [v, u])))))
 | [r, s, q] => oneR P st r (Later (Hold fun v => oneR P st s (Later (Hold fun u => oneR P st q (Later (Hold fun x => K (.tup [v, u, x])))))))
 | _ => False
def runR (P : Program) (w : World) (a : Act) (r : ResultVar) (c : Value) : Prop :=
 (match r with
  | .tmp t => (Pure.pure (a.tmps.getD t undef) : Sem Value)
  | .cell x t => do loadVar t (← asAddr (a.tmps.getD x undef))).run P w = .ok c w
theorem oneR_sound [Glb] [Dfs] {st : St} {ρ : Nat → Option Nat} {I : Nat → Prop} {a : Act} {w : World} (hc : Conc N B st ρ I a w) {r : ResultVar} {K : V → Prop} (h : oneR P st r K) : ∃ v c, K v ∧ RepV ρ I w v c ∧ runR P w a r c := by
 unfold oneR at h
 split at h
 ·next t => exact ⟨_, _, h, hc.frame t, rfl⟩
 ·next x t =>
  have hx := hc.frame x
  unfold loadK at h
  split at h
  ·next agg n cs h1 h2 hcs =>
   obtain ⟨v, h3, h4⟩ := optK_some h
   obtain ⟨b, off, hr, he⟩ := hx.toIptr hcs
   obtain ⟨c, k1, k2⟩ := run_loadIptr (P := P) (ρ := ρ) hr h1 h2 h3
   refine ⟨v, c, h4, k2, ?_⟩
   simp only [Act.eval] at he
   simp [runR, he, asAddr, k1]
  ·next agg n o k i j h1 h2 ho =>
   obtain ⟨ow, h3, h4, h⟩ := optK_some h
   obtain ⟨row, h5, h⟩ := optK_some h
   obtain ⟨v, h6, h7⟩ := optK_some h
   obtain ⟨b, hb, hB, he⟩ := hx.toPtr ho
   subst h4
   obtain ⟨c, k1, k2⟩ := run_loadVar (P := P) (ρ := ρ) (I := I) (w := w) (b := b) (off := i * ow.k + j) h1 h2 h6 (hc.heap.cells h3 hb hB h5 j)
   refine ⟨v, c, h7, k2, ?_⟩
   simp only [Act.eval] at he
   simp [runR, he, asAddr, k1]
  ·exact h.elim
theorem resK_sound [Glb] [Dfs] {st : St} {ρ : Nat → Option Nat} {I : Nat → Prop} {a : Act} {w : World} (hc : Conc N B st ρ I a w) {fn : Func} {K : V → Prop} (h : resK P st fn.results.toList K) :
  ∃ v c, K v ∧ RepV ρ I w v c ∧ (results fn a.tmps).run P w = .ok c w := by
 have harr : ∀ l, fn.results.toList = l → fn.results = l.toArray := fun l hl => by rw [← hl]
 unfold resK at h
 split at h
 ·next hl =>
  refine ⟨_, .tuple #[], h, .tup rfl (fun i hi => absurd hi (Nat.not_lt_zero i)), ?_⟩
  simp [results, harr _ hl]
 ·next r hl =>
  obtain ⟨v, c, h1, h2, h3⟩ := oneR_sound hc h
  refine ⟨v, c, h1, h2, ?_⟩
  unfold runR at h3
  simp [results, harr _ hl, h3]
  cases r <;> simp_all
 ·next r s hl =>
  obtain ⟨v, c, h1, h2, h3⟩ := oneR_sound hc h
  obtain ⟨u, d, k1, k2, k3⟩ := oneR_sound hc h1
  refine ⟨_, .tuple #[c, d], k1, .tup rfl (fun i hi => ?_), ?_⟩
  ·match i, hi with
   | 0, _ => exact h2
   | 1, _ => exact k2
  ·unfold runR at h3 k3
   simp [results, harr _ hl, h3, k3]
   cases r <;> cases s <;> simp_all
 ·next r s q hl =>
  obtain ⟨v, c, h1, h2, h3⟩ := oneR_sound hc h
  obtain ⟨u, d, k1, k2, k3⟩ := oneR_sound hc h1
  obtain ⟨x, e, l1, l2, l3⟩ := oneR_sound hc k1
  refine ⟨_, .tuple #[c, d, e], l1, .tup rfl (fun i hi => ?_), ?_⟩
  ·match i, hi with
   | 0, _ => exact h2
   | 1, _ => exact k2
   | 2, _ => exact l2
  ·unfold runR at h3 k3 l3
   simp [results, harr _ hl, h3, k3, l3]
   cases r <;> cases s <;> cases q <;> simp_all
 ·exact h.elim
end
end Go.Iso
namespace Go.Iso
open Go Go.RowKit
set_option linter.unusedSimpArgs false
set_option linter.unusedVariables false
section
variable {P : Program} {N B : Nat}
def ordA (ops : Array Oper) : Array Oper := ops.modify (ops.size - 1) fun o => { o with after := o.after.push ⟨ops.size - 2, .data⟩ }
theorem ordA_size {ops : Array Oper} : (ordA ops).size = ops.size := by simp [ordA]
theorem ordA_ne {ops : Array Oper} {i : Nat} (h : i ≠ ops.size - 1) : (ordA ops)[i]? = ops[i]? := by simp [ordA, Array.getElem?_modify, Ne.symm h]
theorem ordA_last {ops : Array Oper} {o : Oper} (h : ops[ops.size - 1]? = some o) : (ordA ops)[ops.size - 1]? = some { o with after := o.after.push ⟨ops.size - 2, .data⟩ } := by simp [ordA, Array.getElem?_modify, h]
theorem ordA_get {ops : Array Oper} {i : Nat} {o : Oper} (h : ops[i]? = some o) : ∃ o', (ordA ops)[i]? = some o' ∧ o'.op = o.op ∧ o'.dst = o.dst ∧ o'.guard = o.guard ∧ (∀ e ∈ o.after, e ∈ o'.after) := by
 by_cases hi : i = ops.size - 1
 ·subst hi; exact ⟨_, ordA_last h, rfl, rfl, rfl, fun e he => by simp [he]⟩
 ·exact ⟨o, (ordA_ne hi).trans h, rfl, rfl, rfl, fun e he => he⟩
theorem ordA_back {ops : Array Oper} {i : Nat} {o' : Oper} (h : (ordA ops)[i]? = some o') : ∃ o, ops[i]? = some o ∧ o'.op = o.op ∧ o'.dst = o.dst ∧ o'.guard = o.guard ∧ (∀ e ∈ o.after, e ∈ o'.after) := by
 have hi : i < ops.size := by have := (Array.getElem?_eq_some_iff.1 h).1; rwa [ordA_size] at this
 have ho : ops[i]? = some ops[i] := Array.getElem?_eq_getElem hi
 obtain ⟨o2, h1, h2⟩ := ordA_get ho
 rw [h] at h1; cases h1; exact ⟨_, ho, h2⟩
theorem ordA_dst {ops : Array Oper} {i : Nat} : dstAt (ordA ops) i = dstAt ops i := by
 unfold dstAt
 cases ho : ops[i]? with
 | none =>
  have : (ordA ops)[i]? = none := by
   rw [Array.getElem?_eq_none_iff] at ho ⊢; rwa [ordA_size]
  rw [this]
 | some o => obtain ⟨o', h1, _, h3, _⟩ := ordA_get ho; rw [h1]; simp [h3]
theorem ready_mk {ops : Array Oper} {listed : Array Bool} {i : Nat} {o : Oper} (ho : ops[i]? = some o) (hs : listed.size = ops.size) (hl : listed.getD i false = false) (ha : ∀ e ∈ o.after, Region.binds .any e = true → listed.getD e.on false = true) : i ∈ Region.ready .any ops listed := by
 have hi : i < ops.size := (Array.getElem?_eq_some_iff.1 ho).1
 unfold Region.ready
 rw [List.mem_filter]
 refine ⟨by simpa using hi, ?_⟩
 simp only [ho, Option.map_some, Option.getD_some, Bool.and_eq_true, Bool.not_eq_true', Array.all_eq_true_iff_forall_mem, Bool.or_eq_true]
 refine ⟨?_, fun e he => ?_⟩
 ·rw [Array.getD_eq_getD_getElem?, Array.getElem?_eq_getElem (hs ▸ hi : i < listed.size)] at hl ⊢
  exact hl
 ·cases hb : Region.binds .any e with
  | false => exact .inl rfl
  | true => exact .inr (ha e he hb)
theorem wpOp_ord {ops : Array Oper} {Q : Exit → Act → World → Prop} {i : Nat} {K : Act → World → Prop} {a : Act} {w : World} (h : wpOp P (ordA ops) Q i K a w) : wpOp P ops Q i K a w := by
 have hy : yielded (ordA ops) a.tmps = yielded ops a.tmps := by
  funext j
  unfold yielded
  cases ho : ops[j]? with
  | none =>
   have : (ordA ops)[j]? = none := by
    rw [Array.getElem?_eq_none_iff] at ho ⊢; rwa [ordA_size]
   simp [this, ho]
  | some o => obtain ⟨o', h1, _, h3, _⟩ := ordA_get ho; simp [h1, ho, h3]
 unfold wpOp at h ⊢
 rw [hy] at h
 by_cases hi : i = ops.size - 1
 ·subst hi
  cases ho : ops[ops.size - 1]? with
  | none =>
   have : (ordA ops)[ops.size - 1]? = none := by
    rw [Array.getElem?_eq_none_iff] at ho ⊢; rwa [ordA_size]
   rw [this] at h; exact h
  | some o => rw [ordA_last ho] at h; exact h
 ·rw [ordA_ne hi] at h; exact h
theorem storeP [Glb] {t : TypeId} {x y : Operand} {G : Nat → V} {σ : Heap} {K : V → Heap → Prop} (h : storeK (szOf P t) (evO G x) (evO G y) σ K) :
  ∃ o k i j v z, evO G x = .ptr o k i j ∧ (∀ (σ2 : Heap) M id, σ2 o = σ o → OpW P (.store t x y) G σ2 M id v (upd σ2 o (some z))) ∧ (σ o).isSome ∧ K v (upd σ o (some z)) := by
 unfold storeK at h; split at h
 ·next n o k i j h1 hx =>
  obtain ⟨ow, h2, h3, h⟩ := optK_some h
  obtain ⟨row, h4, h5, h6, h7, h8, h9⟩ := optK_some h
  exact ⟨o, k, i, j, _, _, hx, fun σ2 M id h => .store hx (h.trans h2) h3 h4 h1 h5 h6 h7 h8, by rw [h2]; rfl, h9⟩
 ·exact h.elim
theorem vcOps_append [Glb] {dr : Bool} {n0 M : Nat} {ops : Array Oper} {K : (Nat → V) → Heap → Prop} {r : List Oper} : ∀ (l : List Oper) (i : Nat) (fr : Nat → V) (σ : Heap), vcOps P dr n0 M ops (l ++ r) i fr σ K = vcOps P dr n0 M ops l i fr σ (fun fr σ => vcOps P dr n0 M ops r (i + l.length) fr σ K)
 | [], i, fr, σ => rfl
 | o :: l, i, fr, σ => by
  have ih : ∀ fr σ, vcOps P dr n0 M ops (l ++ r) (i + 1) fr σ K = vcOps P dr n0 M ops l (i + 1) fr σ (fun fr σ => vcOps P dr n0 M ops r (i + (l.length + 1)) fr σ K) := fun fr σ => by
   rw [vcOps_append l (i + 1) fr σ, show i + 1 + l.length = i + (l.length + 1) by omega]
  have e : (fun (v : V) (σ' : Heap) => vcOps P dr n0 M ops (l ++ r) (i + 1) (putF fr o.dst v) σ' K) = fun v σ' => vcOps P dr n0 M ops l (i + 1) (putF fr o.dst v) σ' (fun fr σ => vcOps P dr n0 M ops r (i + (l.length + 1)) fr σ K) := by
   funext v σ'; exact ih _ _
  rw [List.cons_append]
  unfold vcOps
  cases o.guard with
  | none =>
   show wv P dr M o.op fr σ (n0 + i) (fun (v : V) (σ' : Heap) => vcOps P dr n0 M ops (l ++ r) (i + 1) (putF fr o.dst v) σ' K) = wv P dr M o.op fr σ (n0 + i) _
   rw [e]; rfl
  | some g =>
   obtain ⟨j, want⟩ := g
   show guardK (guardV ops fr j) want (fun _ => wv P dr M o.op fr σ (n0 + i) (fun (v : V) (σ' : Heap) => vcOps P dr n0 M ops (l ++ r) (i + 1) (putF fr o.dst v) σ' K)) (fun _ => vcOps P dr n0 M ops (l ++ r) (i + 1) (putF fr o.dst (.tup [])) σ K) = _
   rw [e, ih]; rfl
def ordC (ops : Array Oper) : Array Oper := ops.modify (ops.size - 1) fun o => { o with op := .move (.const (.bool true)), after := #[] }
theorem ordC_size {ops : Array Oper} : (ordC ops).size = ops.size := by simp [ordC]
theorem ordC_ne {ops : Array Oper} {i : Nat} (h : i ≠ ops.size - 1) : (ordC ops)[i]? = ops[i]? := by simp [ordC, Array.getElem?_modify, Ne.symm h]
theorem ordC_last {ops : Array Oper} {o : Oper} (h : ops[ops.size - 1]? = some o) : (ordC ops)[ops.size - 1]? = some { o with op := .move (.const (.bool true)), after := #[] } := by simp [ordC, Array.getElem?_modify, h]
theorem ordC_get {ops : Array Oper} {i : Nat} {o : Oper} (h : ops[i]? = some o) : ∃ o', (ordC ops)[i]? = some o' ∧ o'.dst = o.dst := by
 by_cases hi : i = ops.size - 1
 ·subst hi; exact ⟨_, ordC_last h, rfl⟩
 ·exact ⟨o, (ordC_ne hi).trans h, rfl⟩
theorem ordC_none {ops : Array Oper} {i : Nat} (h : ops[i]? = none) : (ordC ops)[i]? = none := by
 rw [Array.getElem?_eq_none_iff] at h ⊢; rwa [ordC_size]
theorem ordC_dst {ops : Array Oper} {i : Nat} : dstAt (ordC ops) i = dstAt ops i := by
 unfold dstAt
 cases ho : ops[i]? with
 | none => rw [ordC_none ho]
 | some o => obtain ⟨o', h1, h3⟩ := ordC_get ho; rw [h1]; simp [h3]
theorem wpOp_ordC {ops : Array Oper} {Q : Exit → Act → World → Prop} {i : Nat} {K : Act → World → Prop} {a : Act} {w : World} (hi : i ≠ ops.size - 1) (h : wpOp P (ordC ops) Q i K a w) : wpOp P ops Q i K a w := by
 have hy : yielded (ordC ops) a.tmps = yielded ops a.tmps := by
  funext j
  unfold yielded
  cases ho : ops[j]? with
  | none => simp [ordC_none ho, ho]
  | some o => obtain ⟨o', h1, h3⟩ := ordC_get ho; simp [h1, ho, h3]
 unfold wpOp at h ⊢
 rw [hy, ordC_ne hi] at h
 exact h
def sepV : V → V → Prop
 | .ptr o _ _ _, .ptr o' _ _ _ => o ≠ o'
 | _, _ => False
theorem sepV_ptr {o k i j o' k' i' j' : Nat} : sepV (.ptr o k i j) (.ptr o' k' i' j') = (o ≠ o') := nrfl rfl
def endB (o : Option Oper) : Bool := (o.map fun o => o.guard.isNone && o.dst.isNone).getD false
theorem endB_ex {x : Option Oper} (h : endB x = true) : ∃ o, x = some o ∧ o.guard = none ∧ o.dst = none := by
 cases x with
 | none => cases h
 | some o =>
  refine ⟨o, rfl, ?_⟩
  simp only [endB, Option.map_some, Option.getD_some, Bool.and_eq_true] at h
  exact ⟨by simpa using h.1, by simpa using h.2⟩
def reg2B (N : Nat) (ops : Array Oper) : Bool :=
 decide (2 ≤ ops.size) && (chkB N (ordA ops) && (!simpB (ordA ops) && (chkB N (ordC ops) && (!simpB (ordC ops) && (endB ops[ops.size - 2]? && (endB ops[ops.size - 1]? &&
 ((List.range (ops.size - 2)).all (fun j => ((ops[j]?).map fun o => slotOnly o.op || ancB ops ops.size (ops.size - 1) j).getD false) &&
 (List.range ops.size).all (fun j => match dstAt ops j with | some t => !((ops[ops.size - 1]?).map fun o => (o.looksAt ops).contains t).getD false || ancB ops ops.size (ops.size - 1) j | none => true))))))))
theorem alB_not {ops : Array Oper} (h : simpB ops = false) (i : Nat) : alB ops i = false := by simp [alB, h]
theorem ext_not {n0 : Nat} {ops : Array Oper} {hs : Nat → Heap} {L : Nat} {listed : Array Bool} (h : simpB ops = false) : extH n0 ops hs L listed = hs L := by
 funext o
 unfold extH
 refine joinH_none ?_
 unfold xH
 exact if_neg fun h' => by rw [alB_not h] at h'; cases h'.2.1
theorem planned_dst [Glb] {dr : Bool} {n0 M i : Nat} {ops ops' : Array Oper} {o : Oper} {fr : Nat → V} {σ σ' : Heap} {v : V} (h : ∀ j, dstAt ops' j = dstAt ops j) (k : Planned P dr n0 M ops i o fr σ v σ') : Planned P dr n0 M ops' i o fr σ v σ' := by
 unfold Planned at k ⊢; simp only [h]; exact k
set_option maxHeartbeats 4000000 in
theorem ops_two [Glb] {Q : Exit → Act → World → Prop} {σ0 : Heap} {ρ0 : Nat → Option Nat} {I0 : Nat → Prop} {w0 : World} {n0 M : Nat} {ops : Array Oper} (hok : reg2B N ops = true) (hM : M = n0 + ops.size) {fr0 : Nat → V} {vals : Nat → V} {hs : Nat → Heap} {G : Nat → Nat → V} {H1 H2 : Heap}
  (hG0 : G 0 = fr0) (hplan : ∀ k o, ops[k]? = some o → Planned P true n0 M ops k o (G k) (hs k) (vals k) (hs (k + 1)) ∧ G (k + 1) = putF (G k) o.dst (vals k))
  (hpC : ∀ o, ops[ops.size - 2]? = some o → Planned P true n0 M ops (ops.size - 2) o (G (ops.size - 2)) H1 (vals (ops.size - 2)) H2) (hWp : ∀ o, ops[ops.size - 2]? = some o → isW o.op = true)
  (hq : ∀ o, ops[ops.size - 1]? = some o → isW o.op = true ∧ OpW P o.op (G (ops.size - 1)) (hs (ops.size - 2)) M (n0 + (ops.size - 1)) (vals (ops.size - 1)) H1)
  (hE : hs ops.size = H2)
  (hQ : ∀ ρ I a w, HeapOk H2 ρ I w → (∀ o, M ≤ o → ρ o = none) → (∀ t, RepV ρ I w (G ops.size t) (a.eval (.tmp t))) → a.defers = [] → a.tmps.size = N → Step σ0 ρ0 I0 w0 H2 ρ I w → (∀ o, o < n0 → ρ o = ρ0 o) → Q .normal a w) :
  ∀ (fuel : Nat) (listed : Array Bool) (ρ : Nat → Option Nat) (I : Nat → Prop) (a : Act) (w : World), Inv N n0 M (ordA ops) fr0 vals hs σ0 ρ0 I0 w0 listed ρ I a w → ((List.range ops.size).filter fun i => !listed.getD i false).length ≤ fuel →
   wpAny P .any ops Q fuel listed a w := by
 unfold reg2B at hok
 simp only [Bool.and_eq_true, decide_eq_true_eq, Bool.not_eq_true'] at hok
 obtain ⟨hsz, hcA, hsA, hcC, hsC, hep, heq, hanc, hlook⟩ := hok
 have hcA := chk_of hcA
 have hcC := chk_of hcC
 obtain ⟨op, hop, hgp, hdp⟩ := endB_ex hep
 obtain ⟨oq, hoq, hgq, hdq⟩ := endB_ex heq
 have hmq : ops.size - 2 + 1 = ops.size - 1 := by omega
 -- the first phase
 have coreA := ops_core (P := P) (N := N) (n0 := n0) (M := M) (ops := ordA ops) (Q := Q) (σ0 := σ0) (ρ0 := ρ0) (I0 := I0) (w0 := w0) (by rw [ordA_size]; exact hM) hcA (fr0 := fr0) (vals := vals) (hs := hs) (G := G) (fun h => by rw [hsA] at h; cases h) (fun k o _ h => by rw [hsA] at h; cases h) hG0 (fun _ => False) (fun _ h => h.elim)
  (fun k o' ho' => by
   obtain ⟨o, ho, e1, e2, e3, _⟩ := ordA_back ho'
   obtain ⟨h1, h2⟩ := hplan k o ho
   refine ⟨.inr ?_, by rw [e2]; exact h2⟩
   have h1 := planned_dst (ops' := ordA ops) (fun j => ordA_dst) h1
   unfold Planned at h1 ⊢
   rw [e1, e3]; exact h1)
 have coreA := And.intro (coreA.1 (by rw [ordA_size, hE]; exact hQ)) coreA.2
 -- the second phase: the last store is done
 let hsB : Nat → Heap := fun k => if k ≤ ops.size - 2 then H1 else H2
 let D : Nat → Prop := fun k => k = ops.size - 1 ∨ (k < ops.size - 2 ∧ ∃ o, ops[k]? = some o ∧ slotOnly o.op = false)
 have hB1 : ∀ k, k ≤ ops.size - 2 → hsB k = H1 := fun k h => if_pos h
 have hB2 : ∀ k, ops.size - 2 < k → hsB k = H2 := fun k h => if_neg (by omega)
 have coreC := ops_core (P := P) (N := N) (n0 := n0) (M := M) (ops := ordC ops) (Q := Q) (σ0 := σ0) (ρ0 := ρ0) (I0 := I0) (w0 := w0) (by rw [ordC_size]; exact hM) hcC (fr0 := fr0) (vals := vals) (hs := hsB) (G := G) (fun h => by rw [hsC] at h; cases h) (fun k o _ h => by rw [hsC] at h; cases h) hG0 D
  (fun k hk => by
   rcases hk with rfl | ⟨h1, _⟩
   ·rw [hB2 _ (by omega), hB2 _ (by omega)]
   ·rw [hB1 _ (by omega), hB1 _ (by omega)])
  (fun k o' ho' => by
   have hk : k < ops.size := by have := (Array.getElem?_eq_some_iff.1 ho').1; rwa [ordC_size] at this
   have ho : ops[k]? = some ops[k] := Array.getElem?_eq_getElem hk
   obtain ⟨o2, h1, h2⟩ := ordC_get ho
   rw [ho'] at h1; cases h1
   refine ⟨?_, by rw [h2]; exact (hplan k _ ho).2⟩
   by_cases hkq : k = ops.size - 1
   ·exact .inl (.inl hkq)
   have e : ops[k] = o' := by rw [ordC_ne hkq] at ho'; rw [ho'] at ho; exact (Option.some.inj ho).symm
   by_cases hkp : k = ops.size - 2
   ·subst hkp
    rw [hB1 _ (Nat.le_refl _), hB2 _ (by omega)]
    exact .inr (planned_dst (fun j => ordC_dst) (hpC o' (e ▸ ho)))
   ·cases hso : slotOnly ops[k].op with
    | false => exact .inl (.inr ⟨by omega, _, ho, hso⟩)
    | true =>
     rw [hB1 _ (by omega), hB1 _ (by omega)]
     refine .inr (planned_dst (fun j => ordC_dst) ?_)
     obtain ⟨hp, _⟩ := hplan k _ ho
     rw [e] at hp hso
     have hnw : isW o'.op = false := by
      cases hw : isW o'.op with
      | false => rfl
      | true => rw [isW_slot hw] at hso; cases hso
     rcases hp with ⟨g1, g2, g3⟩ | ⟨g1, g2, g3⟩
     ·obtain ⟨e1, e2, e3⟩ := g3 rfl hnw
      exact .inl ⟨g1, (e3 hso H1).opW M (n0 + k), fun _ _ => ⟨rfl, e3 hso H1, fun _ => e3 hso⟩⟩
     ·exact .inr ⟨g1, g2, rfl⟩)
 have coreC := And.intro (coreC.1 (by rw [ordC_size, hB2 _ (by omega)]; exact hQ)) coreC.2
 have rest : ∀ (listed : Array Bool) (i : Nat), listed.size = ops.size → i ∈ Region.ready .any ops listed → ∀ fuel, ((List.range ops.size).filter fun i => !listed.getD i false).length ≤ fuel + 1 → ((List.range ops.size).filter fun j => !(listed.setIfInBounds i true).getD j false).length ≤ fuel := by
  intro listed i hls hi fuel hf
  obtain ⟨o, ho, hni, _⟩ := ready_spec hi hls
  have hilt : i < ops.size := (Array.getElem?_eq_some_iff.1 ho).1
  have hil : i < listed.size := by rw [hls]; exact hilt
  have hsub : (List.range ops.size).filter (fun j => !(listed.setIfInBounds i true).getD j false) = ((List.range ops.size).filter fun j => !listed.getD j false).filter (fun j => decide (j ≠ i)) := by
   rw [List.filter_filter]
   apply List.filter_congr
   intro j _
   rw [getD_set hil]
   by_cases h : j = i <;> simp [h]
  rw [hsub]
  have hmem : i ∈ (List.range ops.size).filter fun j => !listed.getD j false := List.mem_filter.2 ⟨by simpa using hilt, by simp [hni]⟩
  have := List.length_filter_lt_length_iff_exists (p := fun j => decide (j ≠ i)) (l := (List.range ops.size).filter fun j => !listed.getD j false) |>.2 ⟨i, hmem, by simp⟩
  omega
 have allOf : ∀ (listed : Array Bool), ((List.range ops.size).filter fun i => !listed.getD i false).length ≤ 0 → ∀ i, i < ops.size → listed.getD i false = true := fun listed hf i hi => by
  have hnil : (List.range ops.size).filter (fun i => !listed.getD i false) = [] := List.eq_nil_of_length_eq_zero (by omega)
  rw [List.filter_eq_nil_iff] at hnil
  simpa using hnil i (by simpa using hi)
 have nilOf : ∀ (listed : Array Bool), listed.size = ops.size → (∀ i, i < ops.size → listed.getD i false = true) → Region.ready .any ops listed = [] := fun listed hls hall => by
  rw [List.eq_nil_iff_forall_not_mem]
  intro i hi
  obtain ⟨o, ho, hni, _⟩ := ready_spec hi hls
  rw [hall i (Array.getElem?_eq_some_iff.1 ho).1] at hni; cases hni
 have phase2 : ∀ (fuel : Nat) (listed : Array Bool) (ρ : Nat → Option Nat) (I : Nat → Prop) (a : Act) (w : World), Inv N n0 M (ordC ops) fr0 vals hsB σ0 ρ0 I0 w0 listed ρ I a w → listed.getD (ops.size - 1) false = true → (∀ j o, j < ops.size - 2 → ops[j]? = some o → slotOnly o.op = false → listed.getD j false = true) →
   ((List.range ops.size).filter fun i => !listed.getD i false).length ≤ fuel → wpAny P .any ops Q fuel listed a w := by
  intro fuel
  induction fuel with
  | zero =>
   intro listed ρ I a w inv hlq hlh hf
   have hls : listed.size = ops.size := by rw [inv.lsize, ordC_size]
   exact ⟨nilOf listed hls (allOf listed hf), coreC.1 listed ρ I a w inv (by rw [ordC_size]; exact allOf listed hf)⟩
  | succ fuel ih =>
   intro listed ρ I a w inv hlq hlh hf
   have hls : listed.size = ops.size := by rw [inv.lsize, ordC_size]
   have toC : ∀ i, i ≠ ops.size - 1 → (i ∈ Region.ready .any ops listed ↔ i ∈ Region.ready .any (ordC ops) listed) := fun i hi => by
    constructor
    ·intro h; obtain ⟨o, ho, h1, h2⟩ := ready_spec h hls; exact ready_mk ((ordC_ne hi).trans ho) inv.lsize h1 h2
    ·intro h; obtain ⟨o, ho, h1, h2⟩ := ready_spec h inv.lsize; exact ready_mk ((ordC_ne hi).symm.trans ho) hls h1 h2
   refine ⟨fun hr => coreC.1 listed ρ I a w inv (ready_least hcC inv.lsize ?_), fun i hi => ?_⟩
   ·rw [List.eq_nil_iff_forall_not_mem]
    intro i hi
    by_cases hiq : i = ops.size - 1
    ·subst hiq; obtain ⟨_, _, h1, _⟩ := ready_spec hi inv.lsize; rw [hlq] at h1; cases h1
    ·have := (toC i hiq).2 hi; rw [hr] at this; cases this
   ·obtain ⟨o, ho, hni, _⟩ := ready_spec hi hls
    have hil : i < listed.size := by rw [hls]; exact (Array.getElem?_eq_some_iff.1 ho).1
    have hiq : i ≠ ops.size - 1 := fun e => by rw [e, hlq] at hni; cases hni
    refine wpOp_ordC hiq (coreC.2 listed ρ I a w inv i ((toC i hiq).1 hi) ?_ _ fun ρ' I' a' w' inv' => ih _ ρ' I' a' w' inv' ?_ ?_ (rest listed i hls hi fuel hf))
    ·rintro (h | ⟨h1, o', h2, h3⟩)
     ·exact hiq h
     ·rw [hlh i o' h1 h2 h3] at hni; cases hni
    ·rw [getD_set hil]; split
     ·rfl
     ·exact hlq
    ·intro j o' h1 h2 h3
     rw [getD_set hil]; split
     ·rfl
     ·exact hlh j o' h1 h2 h3
 intro fuel
 induction fuel with
 | zero =>
  intro listed ρ I a w inv hf
  have hls : listed.size = ops.size := by rw [inv.lsize, ordA_size]
  exact ⟨nilOf listed hls (allOf listed hf), coreA.1 listed ρ I a w inv (by rw [ordA_size]; exact allOf listed hf)⟩
 | succ fuel ih =>
  intro listed ρ I a w inv hf
  have hls : listed.size = ops.size := by rw [inv.lsize, ordA_size]
  have edge : ∀ (i : Nat) (o : Oper), ops[i]? = some o → ∀ e ∈ o.after, Region.binds .any e = true → e.on < i := fun i o ho e he hb => by
   obtain ⟨o', h1, _, _, _, h2⟩ := ordA_get ho
   exact hcA.edge i o' h1 e (h2 e he) hb
  have down : Down ops listed := fun i o ho hl e he hb => by
   obtain ⟨o', h1, _, _, _, h2⟩ := ordA_get ho
   exact inv.down i o' h1 hl e (h2 e he) hb
  have toA : ∀ i, i ∈ Region.ready .any ops listed → (i ≠ ops.size - 1 ∨ listed.getD (ops.size - 2) false = true) → i ∈ Region.ready .any (ordA ops) listed := fun i hi hor => by
   obtain ⟨o, ho, h1, h2⟩ := ready_spec hi hls
   by_cases hiq : i = ops.size - 1
   ·subst hiq
    refine ready_mk (ordA_last ho) inv.lsize h1 fun e he hb => ?_
    rcases Array.mem_push.1 he with h | rfl
    ·exact h2 e h hb
    ·exact hor.resolve_left (fun h => h rfl)
   ·exact ready_mk ((ordA_ne hiq).trans ho) inv.lsize h1 h2
  refine ⟨fun hr => coreA.1 listed ρ I a w inv (ready_least hcA inv.lsize ?_), fun i hi => ?_⟩
  ·rw [List.eq_nil_iff_forall_not_mem]
   intro i hi
   obtain ⟨o', ho', h1, h2⟩ := ready_spec hi inv.lsize
   obtain ⟨o, ho, _, _, _, h3⟩ := ordA_back ho'
   have : i ∈ Region.ready .any ops listed := ready_mk ho hls h1 fun e he hb => h2 e (h3 e he) hb
   rw [hr] at this; cases this
  ·by_cases hor : i ≠ ops.size - 1 ∨ listed.getD (ops.size - 2) false = true
   ·exact wpOp_ord (coreA.2 listed ρ I a w inv i (toA i hi hor) (fun h => h) _ fun ρ' I' a' w' inv' => ih _ ρ' I' a' w' inv' (rest listed i hls hi fuel hf))
   ·-- the last store, early
    have hiq : i = ops.size - 1 := Classical.byContradiction fun h => hor (.inl h)
    have hlp : listed.getD (ops.size - 2) false = false := by
     cases h : listed.getD (ops.size - 2) false with
     | false => rfl
     | true => exact absurd (.inr h) hor
    subst hiq
    obtain ⟨o, ho, hni, hready⟩ := ready_spec hi hls
    rw [hoq] at ho; cases ho
    have before : ∀ j, ancB ops ops.size (ops.size - 1) j = true → listed.getD j false = true := fun j h => anc_listed down _ _ j h fun o' ho' => by rw [hoq] at ho'; cases ho'; exact hready
    have heavy : ∀ j o, j < ops.size - 2 → ops[j]? = some o → slotOnly o.op = false → listed.getD j false = true := fun j o hj ho hso => by
     have := List.all_eq_true.1 hanc j (by simpa using hj)
     rw [ho] at this
     simp only [Option.map_some, Option.getD_some, hso, Bool.false_or] at this
     exact before j this
    obtain ⟨L, hL, h1, h2, h3, _⟩ := inv.heap
    rw [ext_not hsA] at h1 h2
    have hfr := frames_at (G := G) hcA (fun k o' ho' => by
     obtain ⟨o, ho, _, e2, _⟩ := ordA_back ho'
     rw [e2]; exact (hplan k o ho).2)
    have hconst : ∀ k, k < ops.size → (∀ o, ops[k]? = some o → isW o.op = false) → hs (k + 1) = hs k := by
     intro k hk hw
     have ho : ops[k]? = some ops[k] := Array.getElem?_eq_getElem hk
     obtain ⟨h1, _⟩ := hplan k _ ho
     rcases h1 with h1 | h1
     ·exact (h1.2.2 rfl (hw _ ho)).1
     ·exact h1.2.2
    have hLe : hs L = hs (ops.size - 2) := by
     have hLp : L ≤ ops.size - 2 := by
      rcases Nat.lt_or_ge (ops.size - 2) L with h | h
      ·obtain ⟨o', ho', e1, _⟩ := ordA_get hop
       have := (h3 _ o' ho' (by rw [e1]; exact hWp _ hop) (alB_not hsA _)).2 h
       rw [hlp] at this; cases this
      ·exact h
     have := heaps_const (hs := hs) (L := L) (ops.size - 2 - L) fun k hk1 hk2 => hconst k (by omega) fun o ho => by
      cases hw : isW o.op with
      | false => rfl
      | true =>
       obtain ⟨o', ho', e1, _⟩ := ordA_get ho
       have := (h3 k o' ho' (by rw [e1]; exact hw) (alB_not hsA _)).1 (heavy k o (by omega) ho (isW_slot hw))
       omega
     rw [← this, show L + (ops.size - 2 - L) = ops.size - 2 by omega]
    rw [hLe] at h1 h2
    have hops : OkOn (G (ops.size - 1)) ρ I w a oq.op.operands := by
     intro t ht
     have htl : t ∈ oq.looksAt ops := by
      unfold Oper.looksAt
      exact List.mem_append.2 (.inl (List.mem_filterMap.2 ⟨.tmp t, by simpa using ht, rfl⟩))
     by_cases hw : ∃ j, dstAt ops j = some t
     ·obtain ⟨j, hj⟩ := hw
      have hjs : j < ops.size := by
       rcases Nat.lt_or_ge j ops.size with h | h
       ·exact h
       ·simp [dstAt, Array.getElem?_eq_none h] at hj
      have hjq : j ≠ ops.size - 1 := fun e => by rw [e] at hj; simp [dstAt, hoq, hdq] at hj
      have := List.all_eq_true.1 hlook j (by simpa using hjs)
      rw [hj, hoq] at this
      simp only [Option.map_some, Option.getD_some] at this
      have hc : (oq.looksAt ops).contains t = true := by simpa using htl
      rw [hc] at this
      simp only [Bool.not_true, Bool.false_or] at this
      rw [(hfr (ops.size - 1) (by rw [ordA_size]; omega)).1 t j (ordA_dst.trans hj) (by omega)]
      exact inv.set j t (ordA_dst.trans hj) (before j this)
     ·rw [(hfr (ops.size - 1) (by rw [ordA_size]; omega)).2 t (fun j hj => absurd ⟨j, ordA_dst.symm.trans hj⟩ hw), hG0]
      exact inv.unset t fun j hj => absurd ⟨j, ordA_dst.symm.trans hj⟩ hw
    have hil : ops.size - 1 < listed.size := by rw [hls]; omega
    have hset : ∀ m, m ≠ ops.size - 1 → (listed.setIfInBounds (ops.size - 1) true).getD m false = listed.getD m false := fun m hm => by rw [getD_set hil, if_neg hm]
    have hseti : (listed.setIfInBounds (ops.size - 1) true).getD (ops.size - 1) false = true := by rw [getD_set hil, if_pos rfl]
    unfold wpOp
    simp only [hoq]
    rw [if_pos (by simp [Region.wanted, hgq])]
    refine .inl ((hq oq hoq).2 oq rfl ρ I a w h1 inv.freshM (inv.fresh _ (by rw [ordA_size]; omega) hni) hops _ Q fun c ρ' I' w' hs' hh' hid _ => ?_)
    rw [hdq]
    refine phase2 fuel _ ρ' I' a w' ⟨?_, ?_, ?_, ?_, ?_, ?_, ?_, inv.defers, inv.tsize, ?_⟩ hseti ?_ (rest listed _ hls hi fuel hf)
    ·intro j oj hj hjl e he hb
     by_cases hjq : j = ops.size - 1
     ·subst hjq; rw [ordC_last hoq] at hj; cases hj; simp at he
     ·rw [hset j hjq] at hjl
      rw [ordC_ne hjq] at hj
      have hlt := edge j oj hj e he hb
      have hjs : j < ops.size := (Array.getElem?_eq_some_iff.1 hj).1
      rw [hset e.on (by omega)]
      exact down j oj hj hjl e he hb
    ·rw [Array.size_setIfInBounds, ordC_size]; exact hls
    ·refine ⟨ops.size - 2, by rw [ordC_size]; omega, ?_, ?_, fun j oj hj hw _ => ?_, fun j hj _ => by rw [alB_not hsC] at hj; cases hj⟩
     ·rw [ext_not hsC, hB1 _ (Nat.le_refl _)]; exact hh'
     ·rw [ext_not hsC, hB1 _ (Nat.le_refl _)]; exact h2.trans hs'
     ·by_cases hjq : j = ops.size - 1
      ·subst hjq; rw [ordC_last hoq] at hj; cases hj; cases hw
      ·rw [ordC_ne hjq] at hj
       have hjs : j < ops.size := (Array.getElem?_eq_some_iff.1 hj).1
       rw [hset j hjq]
       by_cases hjp : j = ops.size - 2
       ·subst hjp; rw [hlp]; exact ⟨(fun h => by cases h), fun h => absurd h (Nat.lt_irrefl _)⟩
       ·rw [heavy j oj (by omega) hj (isW_slot hw)]; exact ⟨fun _ => by omega, fun _ => rfl⟩
    ·intro m hm; rw [hid m (by omega)]; exact inv.freshM m hm
    ·intro j hj hjl
     rw [ordC_size] at hj
     have hjq : j ≠ ops.size - 1 := fun e => by rw [e, hseti] at hjl; cases hjl
     rw [hset j hjq] at hjl
     rw [hid _ (by omega)]; exact inv.fresh j (by rw [ordA_size]; exact hj) hjl
    ·intro j t hj hjl
     rw [ordC_dst] at hj
     have hjq : j ≠ ops.size - 1 := fun e => by rw [e] at hj; simp [dstAt, hoq, hdq] at hj
     rw [hset j hjq] at hjl
     exact hs'.rep h1 (inv.set j t (ordA_dst.trans hj) hjl)
    ·intro t ht
     refine hs'.rep h1 (inv.unset t fun j hj => ?_)
     rw [ordA_dst] at hj
     have hjq : j ≠ ops.size - 1 := fun e => by rw [e] at hj; simp [dstAt, hoq, hdq] at hj
     have := ht j (ordC_dst.trans hj)
     rwa [hset j hjq] at this
    ·intro m hm; exact (hid m (by omega)).trans (inv.low m hm)
    ·intro j o hj ho hso
     rw [hset j (by omega)]
     exact heavy j o hj ho hso
theorem vcOps_g [Glb] {dr : Bool} {n0 M i : Nat} {ops : Array Oper} {o : Oper} {rest : List Oper} {fr : Nat → V} {σ : Heap} {K : (Nat → V) → Heap → Prop} (hg : o.guard = none) :
  vcOps P dr n0 M ops (o :: rest) i fr σ K = wv P dr M o.op fr σ (n0 + i) (fun v σ' => vcOps P dr n0 M ops rest (i + 1) (putF fr o.dst v) σ' K) := by
 cases o; simp only at hg; subst hg; rfl
theorem two_last {ops : Array Oper} (h : 2 ≤ ops.size) : ∃ l0 a b, ops.toList = l0 ++ [a, b] ∧ l0.length = ops.size - 2 ∧ ops[ops.size - 2]? = some a ∧ ops[ops.size - 1]? = some b := by
 have h1 : ops.size - 2 < ops.toList.length := by simp; omega
 have h2 : ops.size - 2 + 1 < ops.toList.length := by simp; omega
 refine ⟨ops.toList.take (ops.size - 2), ops.toList[ops.size - 2], ops.toList[ops.size - 2 + 1], ?_, by simp, ?_, ?_⟩
 ·have e : ops.toList.drop (ops.size - 2) = [ops.toList[ops.size - 2], ops.toList[ops.size - 2 + 1]] := by
   rw [List.drop_eq_getElem_cons h1, List.drop_eq_getElem_cons h2, List.drop_of_length_le (by simp; omega)]
  rw [← e, List.take_append_drop]
 ·rw [Array.getElem?_eq_getElem (by omega)]; simp
 ·rw [show ops.size - 1 = ops.size - 2 + 1 by omega, Array.getElem?_eq_getElem (by omega)]; simp
theorem AW.region2 [Glb] (hm : P.follows .mixedOrders = true) {Q : Exit → St → Prop} {st : St} {id : Nat} {ops : Array Oper} {tp tq : TypeId} {xp yp xq yq : Operand} (hok : reg2B N ops = true) (hp : (ops[ops.size - 2]?).map (·.op) = some (.store tp xp yp)) (hq : (ops[ops.size - 1]?).map (·.op) = some (.store tq xq yq))
  (h : vcOps P true st.n (st.n + ops.size) ops ops.toList 0 st.fr st.σ fun fr σ => sepV (evO fr xp) (evO fr xq) ∧ Q .normal ⟨fr, σ, st.n + ops.size⟩) : AW P N B (.region id ops true) Q st := by
 intro ρ I a w hc
 have hok' := hok
 unfold reg2B at hok'
 simp only [Bool.and_eq_true, decide_eq_true_eq] at hok'
 obtain ⟨hsz, _, _, _, _, hep, heq, _⟩ := hok'
 obtain ⟨l0, op, oq, hl, hl0, hop, hoq⟩ := two_last hsz
 have hdp : op.guard = none ∧ op.dst = none := by
  obtain ⟨o, h1, h2⟩ := endB_ex hep; rw [hop] at h1; cases h1; exact h2
 have hdq : oq.guard = none ∧ oq.dst = none := by
  obtain ⟨o, h1, h2⟩ := endB_ex heq; rw [hoq] at h1; cases h1; exact h2
 rw [hop] at hp; rw [hoq] at hq
 simp only [Option.map_some, Option.some.injEq] at hp hq
 refine wp_region_any hm ?_
 rw [hl, vcOps_append] at h
 obtain ⟨vals0, hs0, G0, h1, h2, h3, h4⟩ := vcOps_plan l0 0 st.fr st.σ (fun o ho => by
  have : o ∈ ops.toList := by rw [hl]; exact List.mem_append_left _ ho
  simpa using this) h
 simp only [Nat.zero_add] at h3 h4
 have h4 : storeK (szOf P tp) (evO (G0 l0.length) xp) (evO (G0 l0.length) yp) (hs0 l0.length) (fun _ σ1 => storeK (szOf P tq) (evO (G0 l0.length) xq) (evO (G0 l0.length) yq) σ1 (fun _ σ2 => sepV (evO (G0 l0.length) xp) (evO (G0 l0.length) xq) ∧ Q .normal ⟨G0 l0.length, σ2, st.n + ops.size⟩)) := by
  rw [vcOps_g hdp.1] at h4
  have e : (fun (v : V) (σ' : Heap) => vcOps P true st.n (st.n + ops.size) ops [oq] (l0.length + 1) (putF (G0 l0.length) op.dst v) σ' (fun fr σ => sepV (evO fr xp) (evO fr xq) ∧ Q .normal ⟨fr, σ, st.n + ops.size⟩)) = fun _ σ1 => storeK (szOf P tq) (evO (G0 l0.length) xq) (evO (G0 l0.length) yq) σ1 (fun _ σ2 => sepV (evO (G0 l0.length) xp) (evO (G0 l0.length) xq) ∧ Q .normal ⟨G0 l0.length, σ2, st.n + ops.size⟩) := by
   funext v σ1
   rw [vcOps_g hdq.1, hdp.2, hq, hdq.2]; rfl
  rw [e, hp] at h4
  exact h4
 rw [hl0] at h4
 obtain ⟨o1, k1, i1, j1, v1, z1, e1, g1, s1, h4⟩ := storeP h4
 obtain ⟨o2, k2, i2, j2, v2, z2, e2, g2, s2, hsep, hQ⟩ := storeP h4
 rw [e1, e2, sepV_ptr] at hsep
 let H1 : Heap := upd (hs0 (ops.size - 2)) o2 (some z2)
 let H2 : Heap := upd (upd (hs0 (ops.size - 2)) o1 (some z1)) o2 (some z2)
 have hcomm : upd H1 o1 (some z1) = H2 := by
  funext m
  show upd (upd (hs0 (ops.size - 2)) o2 (some z2)) o1 (some z1) m = upd (upd (hs0 (ops.size - 2)) o1 (some z1)) o2 (some z2) m
  by_cases h1 : m = o1
  ·subst h1; rw [upd_same, upd_ne _ _ hsep, upd_same]
  ·by_cases h2 : m = o2
   ·subst h2; rw [upd_ne _ _ h1, upd_same, upd_same]
   ·rw [upd_ne _ _ h1, upd_ne _ _ h2, upd_ne _ _ h2, upd_ne _ _ h1]
 let vals : Nat → V := fun k => if k < ops.size - 2 then vals0 k else if k = ops.size - 2 then v1 else v2
 let hs : Nat → Heap := fun k => if k ≤ ops.size - 2 then hs0 k else if k = ops.size - 1 then upd (hs0 (ops.size - 2)) o1 (some z1) else H2
 let G : Nat → Nat → V := fun k => if k ≤ ops.size - 2 then G0 k else G0 (ops.size - 2)
 have hsA : ∀ k, k ≤ ops.size - 2 → hs k = hs0 k := fun k h => if_pos h
 have hsB : hs (ops.size - 1) = upd (hs0 (ops.size - 2)) o1 (some z1) := by
  show (if ops.size - 1 ≤ ops.size - 2 then _ else _) = _
  rw [if_neg (by omega), if_pos rfl]
 have hsC : hs ops.size = H2 := by
  show (if ops.size ≤ ops.size - 2 then _ else _) = _
  rw [if_neg (by omega), if_neg (by omega)]
 have GA : ∀ k, k ≤ ops.size - 2 → G k = G0 k := fun k h => if_pos h
 have GB : ∀ k, ops.size - 2 < k → G k = G0 (ops.size - 2) := fun k h => if_neg (by omega)
 have vA : ∀ k, k < ops.size - 2 → vals k = vals0 k := fun k h => if_pos h
 have vB : vals (ops.size - 2) = v1 := by
  show (if ops.size - 2 < ops.size - 2 then _ else _) = _
  rw [if_neg (by omega), if_pos rfl]
 have vC : vals (ops.size - 1) = v2 := by
  show (if ops.size - 1 < ops.size - 2 then _ else _) = _
  rw [if_neg (by omega), if_neg (by omega)]
 have p := drew_pure (w := w) (w.drawn + 1) hc.heap.lt
 have hplan : ∀ k o, ops[k]? = some o → Planned P true st.n (st.n + ops.size) ops k o (G k) (hs k) (vals k) (hs (k + 1)) ∧ G (k + 1) = putF (G k) o.dst (vals k) := by
  intro k o ho
  have hk : k < ops.size := (Array.getElem?_eq_some_iff.1 ho).1
  by_cases hk1 : k < ops.size - 2
  ·have hkl : k < l0.length := by omega
   have ho' : o = l0[k] := by
    have h5 : ops.toList[k]? = some o := by simpa using ho
    rw [hl, List.getElem?_append_left hkl, List.getElem?_eq_getElem hkl] at h5
    exact (Option.some.inj h5).symm
   obtain ⟨⟨q1, _⟩, q2⟩ := h3 k (by omega)
   rw [hsA k (by omega), hsA (k + 1) (by omega), vA k hk1, GA k (by omega), GA (k + 1) (by omega), ho']
   exact ⟨q1, q2⟩
  ·by_cases hk2 : k = ops.size - 2
   ·subst hk2
    rw [hop] at ho; cases ho
    rw [show ops.size - 2 + 1 = ops.size - 1 by omega, hsA _ (Nat.le_refl _), hsB, vB, GA _ (Nat.le_refl _), GB _ (by omega), hdp.2]
    exact ⟨.inl ⟨.inl hdp.1, by rw [hp]; exact g1 _ _ _ rfl, fun _ hw => by rw [hp] at hw; cases hw⟩, rfl⟩
   ·have hk3 : k = ops.size - 1 := by omega
    subst hk3
    rw [hoq] at ho; cases ho
    rw [show ops.size - 1 + 1 = ops.size by omega, hsB, hsC, vC, GB _ (by omega), GB _ (by omega), hdq.2]
    exact ⟨.inl ⟨.inl hdq.1, by rw [hq]; exact g2 _ _ _ rfl, fun _ hw => by rw [hq] at hw; cases hw⟩, rfl⟩
 have hnone : ∀ i, st.σ (st.n + i) = none := fun i => by
  cases hx : st.σ (st.n + i) with
  | none => rfl
  | some x =>
   obtain ⟨b, _, _, hb, _⟩ := hc.heap.own _ _ hx
   rw [hc.fresh _ (by omega)] at hb; cases hb
 have hh0 : hs 0 = st.σ := (hsA 0 (Nat.zero_le _)).trans h1
 have hext : extH st.n (ordA ops) hs 0 (Array.replicate ops.size false) = st.σ := by
  funext o
  unfold extH
  rw [hh0]
  refine joinH_none ?_
  unfold xH
  refine if_neg fun h => ?_
  rw [rep_false] at h; cases h.2.2.2
 refine ops_two (P := P) (N := N) (n0 := st.n) (M := st.n + ops.size) (σ0 := st.σ) (ρ0 := ρ) (I0 := I) (w0 := w) hok rfl (fr0 := st.fr) (vals := vals) (hs := hs) (G := G) (H1 := H1) (H2 := H2) ((GA 0 (Nat.zero_le _)).trans h2) hplan (fun o ho => ?_) (fun o ho => ?_) (fun o ho => ?_) hsC (fun ρ' I' a' w' hh hf hfr hd hN hs' hlow => ?_) ops.size _ ρ I a _ ?_ ?_
 ·rw [hop] at ho; cases ho
  rw [GA _ (Nat.le_refl _), vB]
  refine .inl ⟨.inl hdp.1, ?_, fun _ hw => by rw [hp] at hw; cases hw⟩
  rw [hp, ← hcomm]
  exact g1 H1 _ _ (upd_ne _ _ hsep)
 ·rw [hop] at ho; cases ho; rw [hp]; rfl
 ·rw [hoq] at ho; cases ho
  rw [hq, hsA _ (Nat.le_refl _), vC, GB _ (by omega)]
  exact ⟨rfl, g2 _ _ _ (upd_ne _ _ (Ne.symm hsep)).symm⟩
 ·rw [GB _ (by omega)] at hfr
  exact ⟨⟨G0 (ops.size - 2), H2, st.n + ops.size⟩, ρ', I', hQ, ⟨hh, hf, hfr, hd, hN, by have := hc.base; show B ≤ st.n + ops.size; omega⟩, ⟨hs'.toKept, fun o ho => hlow o (by have := hc.base; omega)⟩⟩
 ·refine ⟨fun i o ho hl => ?_, by rw [ordA_size]; simp, ⟨0, Nat.zero_le _, hext ▸ hc.heap.pure p, hext ▸ p.step, fun i o ho hw _ => ?_, fun i _ h => absurd h (Nat.not_lt_zero i)⟩, fun m hm' => hc.fresh m (by omega), fun i hi _ => hc.fresh _ (by omega), fun j t hj hl => ?_, fun t _ => p.step.rep hc.heap (hc.frame t), hc.defers, hc.size, fun _ _ => rfl⟩
  ·rw [rep_false] at hl; cases hl
  ·rw [rep_false]; exact ⟨fun h => (by cases h), fun h => absurd h (Nat.not_lt_zero i)⟩
  ·rw [rep_false] at hl; cases hl
 ·exact Nat.le_trans (List.length_filter_le _ _) (by simp)
where
 rep_false {m j : Nat} : (Array.replicate m false).getD j false = false := by
  rw [Array.getD_eq_getD_getElem?, Array.getElem?_replicate]; split <;> rfl
/-! ### A drawn region whose last operation stands behind all others -/
def ordL (ops : Array Oper) : Array Oper := ops.modify (ops.size - 1) fun o => { o with op := .move (.const (.bool true)) }
theorem ordL_size {ops : Array Oper} : (ordL ops).size = ops.size := by simp [ordL]
theorem ordL_ne {ops : Array Oper} {i : Nat} (h : i ≠ ops.size - 1) : (ordL ops)[i]? = ops[i]? := by simp [ordL, Array.getElem?_modify, Ne.symm h]
theorem ordL_last {ops : Array Oper} {o : Oper} (h : ops[ops.size - 1]? = some o) : (ordL ops)[ops.size - 1]? = some { o with op := .move (.const (.bool true)) } := by simp [ordL, Array.getElem?_modify, h]
theorem ordL_get {ops : Array Oper} {i : Nat} {o : Oper} (h : ops[i]? = some o) : ∃ o', (ordL ops)[i]? = some o' ∧ o'.dst = o.dst ∧ o'.after = o.after := by
 by_cases hi : i = ops.size - 1
 ·subst hi; exact ⟨_, ordL_last h, rfl, rfl⟩
 ·exact ⟨o, (ordL_ne hi).trans h, rfl, rfl⟩
theorem ordL_none {ops : Array Oper} {i : Nat} (h : ops[i]? = none) : (ordL ops)[i]? = none := by
 rw [Array.getElem?_eq_none_iff] at h ⊢; rwa [ordL_size]
theorem ordL_dst {ops : Array Oper} {i : Nat} : dstAt (ordL ops) i = dstAt ops i := by
 unfold dstAt
 cases ho : ops[i]? with
 | none => rw [ordL_none ho]
 | some o => obtain ⟨o', h1, h3, _⟩ := ordL_get ho; rw [h1]; simp [h3]
theorem wpOp_ordL {ops : Array Oper} {Q : Exit → Act → World → Prop} {i : Nat} {K : Act → World → Prop} {a : Act} {w : World} (hi : i ≠ ops.size - 1) (h : wpOp P (ordL ops) Q i K a w) : wpOp P ops Q i K a w := by
 have hy : yielded (ordL ops) a.tmps = yielded ops a.tmps := by
  funext j
  unfold yielded
  cases ho : ops[j]? with
  | none => simp [ordL_none ho, ho]
  | some o => obtain ⟨o', h1, h3, _⟩ := ordL_get ho; simp [h1, ho, h3]
 unfold wpOp at h ⊢
 rw [hy, ordL_ne hi] at h
 exact h
theorem ready_ordL {ops : Array Oper} {listed : Array Bool} (hs : listed.size = ops.size) {i : Nat} : i ∈ Region.ready .any ops listed ↔ i ∈ Region.ready .any (ordL ops) listed := by
 constructor
 ·intro h
  obtain ⟨o, ho, h1, h2⟩ := ready_spec h hs
  obtain ⟨o', k1, _, k3⟩ := ordL_get ho
  exact ready_mk k1 (by rw [ordL_size]; exact hs) h1 (by rw [k3]; exact h2)
 ·intro h
  obtain ⟨o', ho, h1, h2⟩ := ready_spec h (by rw [ordL_size]; exact hs)
  have hi : i < ops.size := by have := (Array.getElem?_eq_some_iff.1 ho).1; rwa [ordL_size] at this
  obtain ⟨o2, k1, _, k3⟩ := ordL_get (Array.getElem?_eq_getElem hi)
  rw [ho] at k1; cases k1
  exact ready_mk (Array.getElem?_eq_getElem hi) hs h1 (by rw [← k3]; exact h2)
def reg3B (N : Nat) (ops : Array Oper) : Bool :=
 decide (1 ≤ ops.size) && (chkB N (ordL ops) && (((ops[ops.size - 1]?).map fun o => o.guard.isNone).getD false && ((List.range (ops.size - 1)).all fun j => ancB ops ops.size (ops.size - 1) j)))
set_option maxHeartbeats 4000000 in
theorem AW.region3 [Glb] (hm : P.follows .mixedOrders = true) {Q : Exit → St → Prop} {st : St} {id : Nat} {ops : Array Oper} {l0 : List Oper} {oq : Oper} (hok : reg3B N ops = true) (hl : ops.toList = l0 ++ [oq])
  (h : vcOps P true st.n (st.n + ops.size) (ordL ops) l0 0 st.fr st.σ fun fr σ => wv P false (st.n + ops.size) oq.op fr σ (st.n + l0.length) fun v σ' => Q .normal ⟨putF fr oq.dst v, σ', st.n + ops.size⟩) : AW P N B (.region id ops true) Q st := by
 intro ρ I a w hc
 unfold reg3B at hok
 simp only [Bool.and_eq_true, decide_eq_true_eq] at hok
 obtain ⟨hsz, hchk, hgq, hanc⟩ := hok
 have hchk := chk_of hchk
 have hl0 : l0.length = ops.size - 1 := by have := congrArg List.length hl; simp at this; omega
 have hoq : ops[ops.size - 1]? = some oq := by
  have h5 : ops.toList[ops.size - 1]? = some oq := by rw [hl, List.getElem?_append_right (by omega)]; simp [hl0]
  simpa using h5
 have hgq : oq.guard = none := by rw [hoq] at hgq; simpa using hgq
 have hget : ∀ k o, k < ops.size - 1 → ops[k]? = some o → ∃ hk : k < l0.length, o = l0[k] := fun k o hk ho => by
  have hkl : k < l0.length := by omega
  have h5 : ops.toList[k]? = some o := by simpa using ho
  rw [hl, List.getElem?_append_left hkl, List.getElem?_eq_getElem hkl] at h5
  exact ⟨hkl, (Option.some.inj h5).symm⟩
 refine wp_region_any hm ?_
 obtain ⟨vals, hs0, G0, h1, h2, h3, h4⟩ := vcOps_plan l0 0 st.fr st.σ (fun o ho => by
  obtain ⟨k, hk, rfl⟩ := List.getElem_of_mem ho
  have : (ordL ops)[k]? = some l0[k] := by
   rw [ordL_ne (by omega)]
   have h5 : ops.toList[k]? = some l0[k] := by rw [hl, List.getElem?_append_left hk, List.getElem?_eq_getElem hk]
   simpa using h5
  exact Array.mem_of_getElem? this) h
 simp only [Nat.zero_add] at h3 h4
 obtain ⟨vq, σq, hopw, _, hQ⟩ := wv_sound h4
 rw [hl0] at hopw hQ
 let hs : Nat → Heap := fun k => if k ≤ ops.size - 1 then hs0 k else hs0 (ops.size - 1)
 let G : Nat → Nat → V := fun k => if k ≤ ops.size - 1 then G0 k else putF (G0 (ops.size - 1)) oq.dst (vals (ops.size - 1))
 have hsA : ∀ k, k ≤ ops.size - 1 → hs k = hs0 k := fun k h => if_pos h
 have hsB : hs ops.size = hs0 (ops.size - 1) := if_neg (by omega)
 have GA : ∀ k, k ≤ ops.size - 1 → G k = G0 k := fun k h => if_pos h
 have GB : G ops.size = putF (G0 (ops.size - 1)) oq.dst (vals (ops.size - 1)) := if_neg (by omega)
 have p := drew_pure (w := w) (w.drawn + 1) hc.heap.lt
 have hnone : ∀ i, st.σ (st.n + i) = none := fun i => by
  cases hx : st.σ (st.n + i) with
  | none => rfl
  | some x =>
   obtain ⟨b, _, _, hb, _⟩ := hc.heap.own _ _ hx
   rw [hc.fresh _ (by omega)] at hb; cases hb
 have hh0 : hs 0 = st.σ := (hsA 0 (Nat.zero_le _)).trans h1
 have hlast : (ordL ops)[ops.size - 1]? = some { oq with op := .move (.const (.bool true)) } := ordL_last hoq
 have alq : alB (ordL ops) (ops.size - 1) = false := by unfold alB; rw [hlast]; simp [isAl]
 have hG : ∀ k o', (ordL ops)[k]? = some o' → G (k + 1) = putF (G k) o'.dst (vals k) := fun k o' ho' => by
  have hk : k < ops.size := by have := (Array.getElem?_eq_some_iff.1 ho').1; rwa [ordL_size] at this
  by_cases hkq : k = ops.size - 1
  ·subst hkq
   rw [hlast] at ho'; cases ho'
   rw [show ops.size - 1 + 1 = ops.size by omega, GB, GA _ (Nat.le_refl _)]
  ·rw [ordL_ne hkq] at ho'
   obtain ⟨hkl, rfl⟩ := hget k o' (by omega) ho'
   rw [GA k (by omega), GA (k + 1) (by omega)]
   exact (h3 k hkl).2
 have core := ops_core (P := P) (N := N) (n0 := st.n) (M := st.n + ops.size) (ops := ordL ops) (Q := fun e a' w' => ∃ st' ρ' I', Q e st' ∧ Conc N B st' ρ' I' a' w' ∧ Frame B st.σ ρ I w st'.σ ρ' I' w') (σ0 := st.σ) (ρ0 := ρ) (I0 := I) (w0 := w) (by rw [ordL_size]) hchk (fr0 := st.fr) (vals := vals) (hs := hs) (G := G)
  (fun _ i => by rw [hh0]; exact hnone i)
  (fun k o' ho' => by
   have hk : k < ops.size := by have := (Array.getElem?_eq_some_iff.1 ho').1; rwa [ordL_size] at this
   by_cases hkq : k = ops.size - 1
   ·subst hkq
    rw [hlast] at ho'; cases ho'
    rw [show ops.size - 1 + 1 = ops.size by omega, hsB, hsA _ (Nat.le_refl _)]
    exact fun _ => ⟨(fun _ h => by cases h), (fun m _ h => h), (fun _ _ _ h => by cases h), fun _ _ _ h => by cases h⟩
   ·rw [ordL_ne hkq] at ho'
    obtain ⟨hkl, rfl⟩ := hget k o' (by omega) ho'
    rw [hsA k (by omega), hsA (k + 1) (by omega), GA k (by omega)]
    exact (h3 k hkl).1.2 trivial)
  ((GA 0 (Nat.zero_le _)).trans h2) (fun k => k = ops.size - 1)
  (fun k hk => by subst hk; rw [show ops.size - 1 + 1 = ops.size by omega, hsB, hsA _ (Nat.le_refl _)])
  (fun k o' ho' => by
   have hk : k < ops.size := by have := (Array.getElem?_eq_some_iff.1 ho').1; rwa [ordL_size] at this
   refine ⟨?_, hG k o' ho'⟩
   by_cases hkq : k = ops.size - 1
   ·exact .inl hkq
   ·rw [ordL_ne hkq] at ho'
    obtain ⟨hkl, rfl⟩ := hget k o' (by omega) ho'
    rw [hsA k (by omega), hsA (k + 1) (by omega), GA k (by omega)]
    exact .inr (h3 k hkl).1.1)
 have hfr := frames_at (G := G) hchk hG
 have key : ∀ (fuel : Nat) (listed : Array Bool) (ρ1 : Nat → Option Nat) (I1 : Nat → Prop) (a1 : Act) (w1 : World), Inv N st.n (st.n + ops.size) (ordL ops) st.fr vals hs st.σ ρ I w listed ρ1 I1 a1 w1 → listed.getD (ops.size - 1) false = false → ((List.range ops.size).filter fun i => !listed.getD i false).length ≤ fuel →
   wpAny P .any ops (fun e a' w' => ∃ st' ρ' I', Q e st' ∧ Conc N B st' ρ' I' a' w' ∧ Frame B st.σ ρ I w st'.σ ρ' I' w') fuel listed a1 w1 := by
  intro fuel
  induction fuel with
  | zero =>
   intro listed ρ1 I1 a1 w1 inv hlq hf
   have hnil : (List.range ops.size).filter (fun i => !listed.getD i false) = [] := List.eq_nil_of_length_eq_zero (by omega)
   rw [List.filter_eq_nil_iff] at hnil
   have := hnil (ops.size - 1) (by simp; omega)
   rw [hlq] at this; simp at this
  | succ fuel ih =>
   intro listed ρ1 I1 a1 w1 inv hlq hf
   have hls : listed.size = ops.size := by rw [inv.lsize, ordL_size]
   refine ⟨fun hr => ?_, fun i hi => ?_⟩
   ·have hr' : Region.ready .any (ordL ops) listed = [] := by
     rw [List.eq_nil_iff_forall_not_mem]
     intro i hi
     have := (ready_ordL hls).2 hi
     rw [hr] at this; cases this
    have := ready_least hchk inv.lsize hr' (ops.size - 1) (by rw [ordL_size]; omega)
    rw [hlq] at this; cases this
   ·obtain ⟨o, ho, hni, hready⟩ := ready_spec hi hls
    have hilt : i < ops.size := (Array.getElem?_eq_some_iff.1 ho).1
    have hil : i < listed.size := by rw [hls]; exact hilt
    by_cases hiq : i = ops.size - 1
    ·-- the last one: all others are done
     subst hiq
     rw [hoq] at ho; cases ho
     have down : Down ops listed := fun j o ho hl e he hb => by
      obtain ⟨o', k1, _, k3⟩ := ordL_get ho
      exact inv.down j o' k1 hl e (by rw [k3]; exact he) hb
     have before : ∀ j, j < ops.size - 1 → listed.getD j false = true := fun j hj => by
      have := List.all_eq_true.1 hanc j (by simpa using hj)
      exact anc_listed down _ _ j this fun o' ho' => by rw [hoq] at ho'; cases ho'; exact hready
     obtain ⟨L, hL, k1, k2, k3, k4⟩ := inv.heap
     have ext_end : extH st.n (ordL ops) hs ops.size listed = hs ops.size := by
      funext o
      unfold extH
      refine joinH_none ?_
      unfold xH
      refine if_neg fun h => ?_
      have := alB_lt h.2.1
      rw [ordL_size] at this
      omega
     have heq : extH st.n (ordL ops) hs L listed = hs0 (ops.size - 1) := by
      rw [ordL_size] at hL
      have := ext_range (n0 := st.n) (ops := ordL ops) (hs := hs) (L := L) (listed := listed) (ops.size - L) fun k hk1 hk2 => by
       by_cases hkq : k = ops.size - 1
       ·subst hkq
        exact .inl ⟨alq, by rw [show ops.size - 1 + 1 = ops.size by omega, hsB, hsA _ (Nat.le_refl _)]⟩
       ·have hkl : k < l0.length := by omega
        rw [hsA k (by omega), hsA (k + 1) (by omega)]
        obtain ⟨⟨q1, q2⟩, _⟩ := h3 k hkl
        have hko : (ordL ops)[k]? = some l0[k] := by
         rw [ordL_ne hkq]
         have h5 : ops.toList[k]? = some l0[k] := by rw [hl, List.getElem?_append_left hkl, List.getElem?_eq_getElem hkl]
         simpa using h5
        cases hal : alB (ordL ops) k with
        | true =>
         obtain ⟨hsi, o, ho, hg, ha⟩ := alB_ex hal
         rw [hko] at ho; cases ho
         obtain ⟨_, z, hz, _⟩ := (q2 trivial hsi).1 hg ha
         exact .inr ⟨rfl, before k (by omega), z, hz⟩
        | false =>
         refine .inl ⟨rfl, ?_⟩
         cases hw : isW l0[k].op with
         | true => have := (k3 k _ hko hw hal).1 (before k (by omega)); omega
         | false =>
          rcases q1 with q1 | q1
          ·exact (q1.2.2 rfl hw).1
          ·exact q1.2.2
      rw [this, show L + (ops.size - L) = ops.size by omega, ext_end, hsB]
     rw [heq] at k1 k2
     have frames : ∀ t, RepV ρ1 I1 w1 (G0 (ops.size - 1) t) (a1.eval (.tmp t)) := fun t => by
      rw [← GA _ (Nat.le_refl _)]
      by_cases ht : ∃ j, j < ops.size - 1 ∧ dstAt ops j = some t
      ·obtain ⟨j, hj, hd⟩ := ht
       rw [(hfr (ops.size - 1) (by rw [ordL_size]; omega)).1 t j (ordL_dst.trans hd) hj]
       exact inv.set j t (ordL_dst.trans hd) (before j hj)
      ·have hno : ∀ j, dstAt (ordL ops) j = some t → j = ops.size - 1 := fun j hj => by
        rw [ordL_dst] at hj
        have hjs : j < ops.size := by
         rcases Nat.lt_or_ge j ops.size with h | h
         ·exact h
         ·simp [dstAt, Array.getElem?_eq_none h] at hj
        have : ¬ j < ops.size - 1 := fun h => ht ⟨j, h, hj⟩
        omega
       rw [(hfr (ops.size - 1) (by rw [ordL_size]; omega)).2 t (fun j hj => by rw [hno j hj]; exact Nat.le_refl _), GA 0 (Nat.zero_le _), h2]
       exact inv.unset t fun j hj => by rw [hno j hj]; exact hlq
     unfold wpOp
     simp only [hoq]
     rw [if_pos (by simp [Region.wanted, hgq])]
     refine .inl (hopw oq rfl ρ1 I1 a1 w1 k1 inv.freshM (inv.fresh _ (by rw [ordL_size]; omega) hni) (fun t _ => frames t) _ _ fun c ρ' I' w' hs' hh' hid hv' => ?_)
     have hall : ∀ i, i < ops.size → (listed.setIfInBounds (ops.size - 1) true).getD i false = true := fun i hi => by
      rw [getD_set hil]; split
      ·rfl
      ·exact before i (by omega)
     have hnil : Region.ready .any ops (listed.setIfInBounds (ops.size - 1) true) = [] := by
      rw [List.eq_nil_iff_forall_not_mem]
      intro i hi
      obtain ⟨o, ho, hni, _⟩ := ready_spec hi (by rw [Array.size_setIfInBounds]; exact hls)
      rw [hall i (Array.getElem?_eq_some_iff.1 ho).1] at hni; cases hni
     have fin : ∃ st' ρ2 I2, Q .normal st' ∧ Conc N B st' ρ2 I2 (a1.put oq.dst c) w' ∧ Frame B st.σ ρ I w st'.σ ρ2 I2 w' := by
      have hB := hc.base
      refine ⟨⟨putF (G0 (ops.size - 1)) oq.dst vq, σq, st.n + ops.size⟩, ρ', I', hQ, ⟨hh', fun o ho => ?_, frame_put (fun t => hs'.rep k1 (frames t)) inv.tsize (d := oq.dst) (by have := hchk.dst _ _ hlast; exact this) hv', put_defers.trans inv.defers, put_size.trans inv.tsize, ?_⟩, ⟨(k2.trans hs').toKept, fun o ho => ?_⟩⟩
      ·rw [hid o (by show o ≠ _; have : st.n + ops.size ≤ o := ho; omega)]; exact inv.freshM o ho
      ·show B ≤ st.n + ops.size; omega
      ·rw [hid o (by omega)]; exact inv.low o (by omega)
     cases fuel with
     | zero => exact ⟨hnil, fin⟩
     | succ fuel => exact ⟨fun _ => fin, fun i hi => by rw [hnil] at hi; cases hi⟩
    ·refine wpOp_ordL hiq (core.2 listed ρ1 I1 a1 w1 inv i ((ready_ordL hls).1 hi) hiq _ fun ρ' I' a' w' inv' => ih _ ρ' I' a' w' inv' ?_ ?_)
     ·rw [getD_set hil, if_neg (Ne.symm hiq)]; exact hlq
     ·have hsub : (List.range ops.size).filter (fun j => !(listed.setIfInBounds i true).getD j false) = ((List.range ops.size).filter fun j => !listed.getD j false).filter (fun j => decide (j ≠ i)) := by
       rw [List.filter_filter]
       apply List.filter_congr
       intro j _
       rw [getD_set hil]
       by_cases h : j = i <;> simp [h]
      rw [hsub]
      have hmem : i ∈ (List.range ops.size).filter fun j => !listed.getD j false := List.mem_filter.2 ⟨by simpa using hilt, by simp [hni]⟩
      have := List.length_filter_lt_length_iff_exists (p := fun j => decide (j ≠ i)) (l := (List.range ops.size).filter fun j => !listed.getD j false) |>.2 ⟨i, hmem, by simp⟩
      omega
 have hext : extH st.n (ordL ops) hs 0 (Array.replicate ops.size false) = st.σ := by
  funext o
  unfold extH
  rw [hh0]
  refine joinH_none ?_
  unfold xH
  refine if_neg fun h => ?_
  rw [AW.region2.rep_false] at h; cases h.2.2.2
 refine key ops.size _ ρ I a _ ?_ AW.region2.rep_false ?_
 ·refine ⟨fun i o ho hl => ?_, by rw [ordL_size]; simp, ⟨0, Nat.zero_le _, hext ▸ hc.heap.pure p, hext ▸ p.step, fun i o ho hw _ => ?_, fun i _ h => absurd h (Nat.not_lt_zero i)⟩, fun m hm' => hc.fresh m (by omega), fun i hi _ => hc.fresh _ (by omega), fun j t hj hl => ?_, fun t _ => p.step.rep hc.heap (hc.frame t), hc.defers, hc.size, fun _ _ => rfl⟩
  ·rw [AW.region2.rep_false] at hl; cases hl
  ·rw [AW.region2.rep_false]; exact ⟨fun h => (by cases h), fun h => absurd h (Nat.not_lt_zero i)⟩
  ·rw [AW.region2.rep_false] at hl; cases hl
 ·exact Nat.le_trans (List.length_filter_le _ _) (by simp)
def vcL [Glb] (P : Program) (n0 M : Nat) (ops : Array Oper) : List Oper → Nat → (Nat → V) → Heap → ((Nat → V) → Heap → Prop) → Prop
 | [], _, fr, σ, K => K fr σ
 | [o], i, fr, σ, K => wv P false M o.op fr σ (n0 + i) (Later (Hold fun v σ' => K (putF fr o.dst v) σ'))
 | o :: o2 :: r, i, fr, σ, K => vcOps P true n0 M ops [o] i fr σ (Later (Hold fun fr σ => vcL P n0 M ops (o2 :: r) (i + 1) fr σ K))
theorem vcL_one [Glb] {n0 M i : Nat} {ops : Array Oper} {o : Oper} {fr : Nat → V} {σ : Heap} {K : (Nat → V) → Heap → Prop} : vcL P n0 M ops [o] i fr σ K = wv P false M o.op fr σ (n0 + i) (Later (Hold fun v σ' => K (putF fr o.dst v) σ')) := nrfl rfl
theorem vcL_cons [Glb] {n0 M i : Nat} {ops : Array Oper} {o o2 : Oper} {r : List Oper} {fr : Nat → V} {σ : Heap} {K : (Nat → V) → Heap → Prop} : vcL P n0 M ops (o :: o2 :: r) i fr σ K = vcOps P true n0 M ops [o] i fr σ (Later (Hold fun fr σ => vcL P n0 M ops (o2 :: r) (i + 1) fr σ K)) := nrfl rfl
theorem vcL_eq [Glb] {n0 M : Nat} {ops : Array Oper} {oq : Oper} {K : (Nat → V) → Heap → Prop} : ∀ (l0 : List Oper) (i : Nat) (fr : Nat → V) (σ : Heap), vcL P n0 M ops (l0 ++ [oq]) i fr σ K = vcOps P true n0 M ops l0 i fr σ (fun fr σ => wv P false M oq.op fr σ (n0 + (i + l0.length)) fun v σ' => K (putF fr oq.dst v) σ')
 | [], i, fr, σ => rfl
 | [o], i, fr, σ => rfl
 | o :: o2 :: r, i, fr, σ => by
  have ih : (fun (fr : Nat → V) (σ : Heap) => vcL P n0 M ops (o2 :: r ++ [oq]) (i + 1) fr σ K) = fun fr σ => vcOps P true n0 M ops (o2 :: r) (i + 1) fr σ (fun fr σ => wv P false M oq.op fr σ (n0 + (i + (o :: o2 :: r).length)) fun v σ' => K (putF fr oq.dst v) σ') := by
   funext fr σ
   rw [vcL_eq (o2 :: r) (i + 1) fr σ]
   simp only [List.length_cons]
   rw [show i + 1 + (r.length + 1) = i + (r.length + 1 + 1) by omega]
  have h1 : vcL P n0 M ops (o :: o2 :: r ++ [oq]) i fr σ K = vcOps P true n0 M ops [o] i fr σ (fun fr σ => vcL P n0 M ops (o2 :: r ++ [oq]) (i + 1) fr σ K) := rfl
  rw [h1, ih]
  exact (vcOps_append (r := o2 :: r) [o] i fr σ).symm
theorem vcOps_ops [Glb] {dr : Bool} {n0 M : Nat} {ops ops' : Array Oper} (he : ∀ j, dstAt ops' j = dstAt ops j) {K : (Nat → V) → Heap → Prop} : ∀ (l : List Oper) (i : Nat) (fr : Nat → V) (σ : Heap), vcOps P dr n0 M ops' l i fr σ K = vcOps P dr n0 M ops l i fr σ K
 | [], i, fr, σ => rfl
 | o :: l, i, fr, σ => by
  have hg : ∀ fr j, guardV ops' fr j = guardV ops fr j := fun fr j => by unfold guardV; rw [he]
  have e : (fun (v : V) (σ' : Heap) => vcOps P dr n0 M ops' l (i + 1) (putF fr o.dst v) σ' K) = fun v σ' => vcOps P dr n0 M ops l (i + 1) (putF fr o.dst v) σ' K := by
   funext v σ'; exact vcOps_ops he l _ _ _
  unfold vcOps
  cases o.guard with
  | none =>
   show wv P dr M o.op fr σ (n0 + i) (fun (v : V) (σ' : Heap) => vcOps P dr n0 M ops' l (i + 1) (putF fr o.dst v) σ' K) = _
   rw [e]; rfl
  | some g =>
   obtain ⟨j, want⟩ := g
   show guardK (guardV ops' fr j) want (fun _ => wv P dr M o.op fr σ (n0 + i) (fun (v : V) (σ' : Heap) => vcOps P dr n0 M ops' l (i + 1) (putF fr o.dst v) σ' K)) (fun _ => vcOps P dr n0 M ops' l (i + 1) (putF fr o.dst (.tup [])) σ K) = _
   rw [e, hg, vcOps_ops he l]; rfl
theorem AW.region3L [Glb] (hm : P.follows .mixedOrders = true) {Q : Exit → St → Prop} {st : St} {id : Nat} {l : List Oper} (hok : reg3B N l.toArray = true)
  (h : vcL P st.n (st.n + l.length) l.toArray l 0 st.fr st.σ fun fr σ => Q .normal ⟨fr, σ, st.n + l.length⟩) : AW P N B (.region id l.toArray true) Q st := by
 have hne : l ≠ [] := fun e => by subst e; simp [reg3B] at hok
 have hl : l = l.dropLast ++ [l.getLast hne] := (List.dropLast_concat_getLast hne).symm
 generalize l.dropLast = l0 at hl
 generalize l.getLast hne = oq at hl
 refine AW.region3 hm (l0 := l0) (oq := oq) hok (by simpa using hl) ?_
 have h' : vcL P st.n (st.n + l.length) l.toArray (l0 ++ [oq]) 0 st.fr st.σ (fun fr σ => Q .normal ⟨fr, σ, st.n + l.length⟩) := by rw [← hl]; exact h
 rw [vcL_eq] at h'
 rw [vcOps_ops (ops := l.toArray) (fun j => ordL_dst)]
 simpa using h'
/-! ### A drawn region with a store that has no order with the loads before it -/
section
variable {ops : Array Oper} {q : Nat}
def sepW : V → V → Prop
 | .ptr o _ _ _, .ptr o' _ _ _ => o ≠ o'
 | .iptr _, .ptr _ _ _ _ => True
 | _, _ => False
theorem sepW_ptr {o k i j o' k' i' j' : Nat} : sepW (.ptr o k i j) (.ptr o' k' i' j') = (o ≠ o') := nrfl rfl
theorem sepW_iptr {cs : List D} {o' k' i' j' : Nat} : sepW (.iptr cs) (.ptr o' k' i' j') = True := nrfl rfl
def sepT (fr : Nat → V) (tq : Nat) : List Nat → Prop
 | [] => True
 | t :: r => sepW (fr t) (fr tq) ∧ sepT fr tq r
theorem sepT_nil {fr : Nat → V} {tq : Nat} : sepT fr tq [] = True := nrfl rfl
theorem sepT_cons {fr : Nat → V} {tq t : Nat} {r : List Nat} : sepT fr tq (t :: r) = (sepW (fr t) (fr tq) ∧ sepT fr tq r) := nrfl rfl
end
end
end Go.Iso
namespace Go.Iso
open Go Go.RowKit
set_option linter.unusedSimpArgs false
set_option linter.unusedVariables false
def fitA : List V → Prop
 | [] => True
 | .d x :: r => D.fit x ∧ fitA r
 | .agg cs :: r => fitA cs ∧ fitA r
 | _ :: r => fitA r
theorem fitA_of {ρ : Nat → Option Nat} {I : Nat → Prop} {w : World} : ∀ (vs : List V) (f : Nat → Value), (∀ i (hi : i < vs.length), RepV ρ I w vs[i] (f i)) → fitA vs
 | [], _, _ => by unfold fitA; trivial
 | v :: r, f, h => by
  have hr : fitA r := fitA_of r (fun i => f (i + 1)) fun i hi => h (i + 1) (by simpa using hi)
  have h0 : RepV ρ I w v (f 0) := h 0 (by simp)
  cases v with
  | d x => unfold fitA; exact ⟨(h0.toD rfl).fit, hr⟩
  | agg cs => obtain ⟨vs, _, _, h2⟩ := h0.toAgg rfl; unfold fitA; exact ⟨fitA_of cs _ h2, hr⟩
  | _ => unfold fitA; exact hr
def argF (args : List V) : Nat → V := fun t => (args[t]?).getD .any
def retQ (P : Program) (rs : List ResultVar) (K : St → V → Prop) : Exit → St → Prop
 | .normal, st => resK P st rs (K st)
 | .ret, st => resK P st rs (K st)
 | _, _ => False
section
variable {P : Program}
theorem entry_frame {ρ : Nat → Option Nat} {I : Nat → Prop} {w : World} {args : List V} {cargs : Array Value} {n : Nat} (h : RepAll ρ I w args cargs) (t : Nat) :
  RepV ρ I w (argF args t) ((⟨cargs ++ Array.replicate n undef, []⟩ : Act).eval (.tmp t)) := by
 unfold argF
 rcases Nat.lt_or_ge t args.length with ht | ht
 ·rw [List.getElem?_eq_getElem ht, Option.getD_some]
  simp only [Act.eval]
  have := h.rep t ht
  rw [Array.getD_eq_getD_getElem?] at this ⊢
  rw [Array.getElem?_append, if_pos (by rw [h.size]; exact ht)]
  exact this
 ·rw [List.getElem?_eq_none ht]; exact .any _
theorem Cn.of [Glb] {f : FuncId} {fn : Func} {c : Code} {args : List V} {v : V} {N : Nat} {rs : Array ResultVar} (hm : P.follows .mixedOrders = true) (hf : P.funcs[f]? = some fn) (hb : fn.body = some c) (hc : Callable P f) (hN : fn.ntmps = N) (hr : fn.results = rs) (hn : args.length ≤ N)
  (hok : okB N c = true) (hv : v.refs NoRef) (h : fitA args → vc P N 0 c (retQ P rs.toList (Later (Hold fun st u => SealV st.σ u v))) ⟨argF args, Heap.none, 0⟩) : Cn P f args v := by
 subst hN hr
 refine ⟨hc, fun I w cargs hlt hA => calls_of_wp hf hb ?_⟩
 have hh : HeapOk Heap.none (fun _ => none) I w := ⟨(fun o x h => by cases h), (fun o o' x x' b h => by cases h), hlt⟩
 have hcon : Conc fn.ntmps 0 ⟨argF args, Heap.none, 0⟩ (fun _ => none) I ⟨cargs ++ Array.replicate (fn.ntmps - cargs.size) undef, []⟩ w :=
  ⟨hh, fun _ _ => rfl, fun t => entry_frame hA t, rfl, by simp [hA.size]; omega, Nat.le_refl 0⟩
 refine wp_mono (vc_sound hm c _ _ hok (h (fitA_of args _ hA.rep)) _ I _ w hcon) ?_
 rintro e a' w' ⟨st', ρ', I', h1, h2, h3⟩
 have fin : resK P st' fn.results.toList (fun u => SealV st'.σ u v) → a'.defers = [] ∧ ∃ c, (results fn a'.tmps).run P w' = .ok c w' ∧ ∃ c' I'', Ending.returned c = .returned c' ∧ Pure I w I'' w' ∧ RepV (fun _ => none) I'' w' v c' := by
  intro hk
  obtain ⟨u, c, k1, k2, k3⟩ := resK_sound h2 hk
  have hno : ∀ b, ¬ Owns Heap.none (fun _ => none) b := fun b ⟨_, _, h, _⟩ => by cases h
  refine ⟨h2.defers, c, k3, c, fun b => I' b ∨ Owns st'.σ ρ' b, rfl, ⟨⟨h3.os, h3.tape, h3.output, h3.size, fun b hb => h3.kept b hb (hno b)⟩, fun b hb => .inl (h3.imm b hb), fun b hb => ?_, fun b hb => ?_⟩, ?_⟩
  ·rcases hb with hb | hb
   ·rcases h3.immNew b hb with h | h | h
    ·exact .inl h
    ·exact absurd h (hno b)
    ·exact .inr h
   ·rcases h3.owned b hb with h | h
    ·exact absurd h (hno b)
    ·exact .inr h
  ·rcases hb with hb | hb
   ·exact h2.heap.lt b hb
   ·exact h2.heap.owns_lt hb
  ·exact (k1.rep h2.heap k2).reid hv fun _ _ h => h.elim
 cases e with
 | normal => obtain ⟨k1, c, k2, k3⟩ := fin h1; exact ⟨k1, c, k2, k3⟩
 | ret => obtain ⟨k1, c, k2, k3⟩ := fin h1; exact ⟨k1, c, k2, k3⟩
 | _ => exact h1.elim
end
end Go.Iso
namespace Go.Iso
open Go Go.RowKit
set_option linter.unusedSimpArgs false
set_option linter.unusedVariables false
section
variable {P : Program} {N B n0 M i id n m : Nat} {fr : Nat → V} {σ : Heap} {Q : Exit → St → Prop} {st : St} {ops : Array Oper} {rest : List Oper} {dr : Bool}
def splitK (t : Bool) (A B : Unit → Prop) : Prop := (t = true → A ()) ∧ (t = false → B ())
theorem splitK_intro {t : Bool} {A B : Unit → Prop} (h1 : t = true → A ()) (h2 : t = false → B ()) : splitK t A B := ⟨h1, h2⟩
theorem splitK_true {A B : Unit → Prop} : splitK true A B = A () := by simp [splitK]
theorem splitK_false {A B : Unit → Prop} : splitK false A B = B () := by simp [splitK]
theorem condK_val {t : Bool} {A B : Unit → Prop} : condK (.d (.val (.bool t))) A B = splitK t A B := nrfl rfl
theorem guardK_t {b : Bool} {A B : Unit → Prop} : guardK (.d (.val (.bool b))) true A B = splitK b A B := by cases b <;> simp [guardK, splitK]
theorem guardK_f {b : Bool} {A B : Unit → Prop} : guardK (.d (.val (.bool b))) false A B = splitK b B A := by cases b <;> simp [guardK, splitK]
theorem guardK_tup {b : Bool} {A B : Unit → Prop} : guardK (.tup []) b A B = B () := nrfl rfl
theorem pickK_val {t : Bool} {x y : V} {K : V → Prop} : pickK (.d (.val (.bool t))) x y K = splitK t (Later (Hold fun _ => K x)) (Later (Hold fun _ => K y)) := nrfl rfl
def numK (n : Nat) (K : Nat → Prop) : Prop := K n
theorem numK_eq {K : Nat → Prop} : numK n K = K n := nrfl rfl
theorem moveK_eq {x : V} {K : V → Prop} : moveK x K = K x := nrfl rfl
theorem vc_skip [Glb] : vc P N B .skip Q st = Q .normal st := nrfl rfl
theorem vc_region [Glb] {l : List Oper} : vc P N B (.region id l.toArray dr) Q ⟨fr, σ, n⟩ = numK (n + l.length) (Later (Hold fun M => vcOps P dr n M l.toArray l 0 fr σ (Later (Hold fun fr σ => Q .normal ⟨fr, σ, M⟩)))) := by
 simp [vc, numK, Later]
theorem vc_seq [Glb] {x y : Code} : vc P N B (.seq x y) Q st = vc P N B x (thenQ (Later (Hold fun s => vc P N B y Q s)) Q) st := nrfl rfl
theorem vc_cond [Glb] {c : Operand} {x y : Code} : vc P N B (.cond c x y) Q st = condK (evO st.fr c) (Later (Hold fun _ => vc P N B x Q st)) (Later (Hold fun _ => vc P N B y Q st)) := nrfl rfl
theorem vc_block [Glb] {c : Code} : vc P N B (.block id c) Q st = vc P N B c (blockQ id Q) st := nrfl rfl
theorem vc_exit [Glb] : vc P N B (.exit id) Q st = Q (.exit id) st := nrfl rfl
theorem vc_ret [Glb] : vc P N B .ret Q st = Q .ret st := nrfl rfl
theorem vc_loop [Glb] {c : Code} : vc P N B (.loop c) Q st = AW P N B (.loop c) Q st := nrfl rfl
@[congr] theorem AW_congr [Glb] {c : Code} : AW P N B c Q st = AW P N B c Q st := nrfl rfl
theorem thenQ_normal {K : St → Prop} : thenQ K Q .normal st = K st := nrfl rfl
theorem thenQ_ret {K : St → Prop} : thenQ K Q .ret st = Q .ret st := nrfl rfl
theorem thenQ_exit {K : St → Prop} : thenQ K Q (.exit id) st = Q (.exit id) st := nrfl rfl
theorem blockQ_normal : blockQ id Q .normal st = Q .normal st := nrfl rfl
theorem blockQ_ret : blockQ id Q .ret st = Q .ret st := nrfl rfl
theorem blockQ_exit : blockQ id Q (.exit i) st = if i = id then Q .normal st else Q (.exit i) st := nrfl rfl
theorem retQ_normal {rs : List ResultVar} {K : St → V → Prop} : retQ P rs K .normal st = resK P st rs (K st) := nrfl rfl
theorem retQ_ret {rs : List ResultVar} {K : St → V → Prop} : retQ P rs K .ret st = resK P st rs (K st) := nrfl rfl
theorem resK_nil {K : V → Prop} : resK P st [] K = K (.tup []) := nrfl rfl
theorem resK_one {r : ResultVar} {K : V → Prop} : resK P st [r] K = oneR P st r K := nrfl rfl
theorem resK_two {r s : ResultVar} {K : V → Prop} : resK P st [r, s] K = oneR P st r (Later (Hold fun v => oneR P st s (Later (Hold fun u => K (.tup [v, u]))))) := nrfl rfl
theorem resK_three {r s q : ResultVar} {K : V → Prop} : resK P st [r, s, q] K = oneR P st r (Later (Hold fun v => oneR P st s (Later (Hold fun u => oneR P st q (Later (Hold fun x => K (.tup [v, u, x]))))))) := nrfl rfl
theorem oneR_tmp {t : Tmp} {K : V → Prop} : oneR P st (.tmp t) K = moveK (st.fr t) K := nrfl rfl
theorem oneR_cell {x : Tmp} {t : TypeId} {K : V → Prop} : oneR P st (.cell x t) K = loadK (aggOf P t) (szOf P t) st.σ (st.fr x) K := nrfl rfl
theorem vcOps_nil [Glb] {K : (Nat → V) → Heap → Prop} : vcOps P dr n0 M ops [] i fr σ K = K fr σ := nrfl rfl
theorem vcOps_cons [Glb] {d : Option Tmp} {op : Op} {t : TypeId} {p : String} {a : Array Edge} {K : (Nat → V) → Heap → Prop} :
  vcOps P dr n0 M ops ({ dst := d, op := op, type := t, pos := p, after := a, guard := none } :: rest) i fr σ K =
   wv P dr M op fr σ (n0 + i) (Later (Hold fun v σ' => vcOps P dr n0 M ops rest (i + 1) (putF fr d v) σ' K)) := nrfl rfl
theorem vcOps_guard [Glb] {d : Option Tmp} {op : Op} {t : TypeId} {p : String} {a : Array Edge} {j : Nat} {want : Bool} {K : (Nat → V) → Heap → Prop} :
  vcOps P dr n0 M ops ({ dst := d, op := op, type := t, pos := p, after := a, guard := some (j, want) } :: rest) i fr σ K =
   guardK (guardV ops fr j) want (Later (Hold fun _ => wv P dr M op fr σ (n0 + i) (Later (Hold fun v σ' => vcOps P dr n0 M ops rest (i + 1) (putF fr d v) σ' K))))
    (Later (Hold fun _ => vcOps P dr n0 M ops rest (i + 1) (putF fr d (.tup [])) σ K)) := nrfl rfl
def dstL : List Oper → Nat → Option Tmp
 | [], _ => none
 | o :: _, 0 => o.dst
 | _ :: r, j + 1 => dstL r j
theorem dstAt_list : ∀ (l : List Oper) (j : Nat), dstAt l.toArray j = dstL l j
 | [], j => by simp [dstAt, dstL]
 | o :: r, 0 => by simp [dstAt, dstL]
 | o :: r, j + 1 => by rw [dstL, ← dstAt_list r j]; simp [dstAt]
def slotV (fr : Nat → V) : Option Tmp → V
 | some t => fr t
 | none => .any
theorem slotV_some {t : Tmp} : slotV fr (some t) = fr t := nrfl rfl
theorem guardV_list {l : List Oper} {j : Nat} : guardV l.toArray fr j = slotV fr (dstL l j) := by
 unfold guardV; rw [dstAt_list]; cases dstL l j <;> rfl
theorem dstL_zero {d : Option Tmp} {op : Op} {t : TypeId} {p : String} {a : Array Edge} {g : Option (Nat × Bool)} : dstL ({ dst := d, op := op, type := t, pos := p, after := a, guard := g } :: rest) 0 = d := nrfl rfl
theorem dstL_succ {o : Oper} {j : Nat} : dstL (o :: rest) (j + 1) = dstL rest j := nrfl rfl
section ops
variable {G : Nat → V} {K : V → Heap → Prop} {x y c f ix : Operand} {t s d : TypeId}
theorem wv_move [Glb] : wv P dr M (.move x) G σ id K = moveK (evO G x) (Later (Hold fun v => K v σ)) := nrfl rfl
theorem wv_nilCheck [Glb] : wv P dr M (.nilCheck x) G σ id K = nilK (evO G x) (Later (Hold fun v => K v σ)) := nrfl rfl
theorem wv_assign [Glb] : wv P dr M (.assign x) G σ id K = moveK (evO G x) (Later (Hold fun v => K v σ)) := nrfl rfl
theorem wv_pick [Glb] : wv P dr M (.pick c x y) G σ id K = pickK (evO G c) (evO G x) (evO G y) (Later (Hold fun v => K v σ)) := nrfl rfl
theorem wv_load [Glb] : wv P dr M (.load t x) G σ id K = loadK (aggOf P t) (szOf P t) σ (evO G x) (Later (Hold fun v => K v σ)) := nrfl rfl
theorem wv_fieldAddr [Glb] {j : Nat} : wv P dr M (.fieldAddr s x j) G σ id K = fldK (fdOf P s j) (evO G x) (Later (Hold fun v => K v σ)) := nrfl rfl
theorem wv_field [Glb] {j : Nat} : wv P dr M (.field s x j) G σ id K = partK (ptOf P s j) (evO G x) (Later (Hold fun v => K v σ)) := nrfl rfl
theorem wv_indexAddr [Glb] : wv P dr M (.indexAddr t x ix) G σ id K = idxK (esOf P t) (evO G x) (evO G ix) (Later (Hold fun v => K v σ)) := nrfl rfl
theorem wv_binOp [Glb] {op : BinOp} {u : TypeId} : wv P dr M (.binOp op t x y u) G σ id K = valK (bopV P op t (evO G x) (evO G y)) (Later (Hold fun v => K v σ)) := nrfl rfl
theorem wv_unOp [Glb] {op : UnOp} : wv P dr M (.unOp op t x) G σ id K = valK (uopV op (evO G x)) (Later (Hold fun v => K v σ)) := nrfl rfl
theorem wv_convert [Glb] : wv P dr M (.convert s d x) G σ id K = cnvW P dr σ s d (evO G x) K := nrfl rfl
theorem cnvW_d {dr : Bool} {y : D} : cnvW P dr σ s d (.d y) K = cnvK P dr σ s d (.d y) (Later (Hold fun v => K v σ)) := by unfold cnvW; cases (!dr && s == d) <;> rfl
theorem cnvW_ne {dr : Bool} {y : V} (h : (s == d) = false) : cnvW P dr σ s d y K = cnvK P dr σ s d y (Later (Hold fun v => K v σ)) := by unfold cnvW; rw [h, Bool.and_false]
theorem wv_copy [Glb] {s : TypeId} : wv P dr M (.call { callee := .builtin .copy, args := #[x, y], argTypes := #[t, s] }) G σ id K = copyK (elT P t) σ (evO G x) (evO G y) K := nrfl rfl
theorem wv_extract [Glb] {j : Nat} : wv P dr M (.extract x j) G σ id K = extK (evO G x) j (Later (Hold fun v => K v σ)) := nrfl rfl
theorem wv_makeFunc [Glb] {f : FuncId} {l : List Operand} : wv P dr M (.makeFunc (.func f) #[] l.toArray) G σ id K = moveK (.fn f (l.map (evO G))) (Later (Hold fun v => K v σ)) := by
 simp [wv, pv, fnK, moveK]
theorem wv_index [Glb] : wv P dr M (.index t x ix) G σ id K = strK P t (evO G x) (evO G ix) (Later (Hold fun v => K v σ)) := nrfl rfl
theorem wv_len [Glb] : wv P dr M (.call { callee := .builtin .len, args := #[x], argTypes := #[t] }) G σ id K = lenK P t (evO G x) (Later (Hold fun v => K v σ)) := nrfl rfl
theorem wv_min [Glb] {ts : Array TypeId} : wv P dr M (.call { callee := .builtin .min, args := #[x, y], argTypes := ts }) G σ id K = valK (mmV false (evO G x) (evO G y)) (Later (Hold fun v => K v σ)) := nrfl rfl
theorem wv_max [Glb] {ts : Array TypeId} : wv P dr M (.call { callee := .builtin .max, args := #[x, y], argTypes := ts }) G σ id K = valK (mmV true (evO G x) (evO G y)) (Later (Hold fun v => K v σ)) := nrfl rfl
theorem wv_call_t [Glb] {l : List Operand} {ts : Array TypeId} : wv P true M (.call { callee := .value f, args := l.toArray, argTypes := ts }) G σ id K = pcallK P σ (evO G f) (l.map (evO G)) (Later (Hold fun v => K v σ)) := by
 simp [wv]
theorem wv_call_f [Glb] {l : List Operand} {ts : Array TypeId} : wv P false M (.call { callee := .value f, args := l.toArray, argTypes := ts }) G σ id K = callK P (evO G f) (l.map (evO G)) σ M id K := by
 simp [wv]
theorem wv_store [Glb] : wv P dr M (.store t x y) G σ id K = storeK (szOf P t) (evO G x) (evO G y) σ K := nrfl rfl
theorem wv_alloc [Glb] : wv P dr M (.alloc t) G σ id K = allocK (zOf P t) σ id K := nrfl rfl
theorem wv_box [Glb] : wv P dr M (.box t x) G σ id K = boxK (evO G x) σ id K := nrfl rfl
theorem wv_build [Glb] {l : List (Nat × Operand)} : wv P dr M (.build t l.toArray) G σ id K = bldK (stOk P t) (zOf P t) (bldV P t (l.map fun p => (p.1, evO G p.2))) (Later (Hold fun v => K v σ)) := by simp [wv, pv]
theorem wv_slice [Glb] {lo hi : Option Operand} : wv P dr M (.slice t x lo hi none) G σ id K = cutK P t (evO G x) (boundV G lo) (boundV G hi) (Later (Hold fun v => K v σ)) := nrfl rfl
theorem wv_buildSlice [Glb] {len : Nat} {l : List (Nat × Operand)} : wv P dr M (.buildSlice t len l.toArray) G σ id K = numK id (Later (Hold fun id => bsK (elT P t) dr (inOrder 0 l) len (l.map fun p => evO G p.2) σ id K)) := by simp [wv, numK, Later]
theorem wv_makeSlice [Glb] : wv P dr M (.makeSlice t x y) G σ id K = numK id (Later (Hold fun id => mkK (elT P t) σ id (evO G x) (evO G y) K)) := nrfl rfl
theorem wv_append [Glb] {s : TypeId} : wv P dr M (.call { callee := .builtin .append, args := #[x, y], argTypes := #[t, s] }) G σ id K = numK id (Later (Hold fun id => appK (elT P t) (seqT P s) σ id (evO G x) (evO G y) K)) := nrfl rfl
end ops
section forms
variable {K : V → Prop} {L : V → Heap → Prop} {α : Type}
theorem optK_some' {x : α} {K : α → Prop} : optK (some x) K = K x := nrfl rfl
theorem loadK_iptr {g : Bool} {cs : List D} : loadK (some g) (some m) σ (.iptr cs) K = optK (ldV g m (cs.map .d)) K := nrfl rfl
theorem loadK_ptr {g : Bool} {o k i j : Nat} : loadK (some g) (some m) σ (.ptr o k i j) K = optK (σ o) (Later (Hold fun ow => ow.k = k ∧ optK ow.rows[i]? (Later (Hold fun row => optK (ldV g m (row.drop j)) K)))) := nrfl rfl
theorem ldV_t {x : V} {cs : List V} : ldV true n (x :: cs) = if n ≤ (x :: cs).length then some (.agg ((x :: cs).take n)) else none := nrfl rfl
theorem ldV_f {x : V} {cs : List V} : ldV false n (x :: cs) = some x := nrfl rfl
theorem fldK_iptr {off : Nat} {ft : TypeId} {cs : List D} : fldK (some (off, ft)) (.iptr cs) K = moveK (.iptr (cs.drop off)) K := nrfl rfl
theorem fldK_ptr {off : Nat} {ft : TypeId} {o k i j : Nat} : fldK (some (off, ft)) (.ptr o k i j) K = moveK (.ptr o k i (j + off)) K := nrfl rfl
theorem partK_agg {off : Nat} {g : Bool} {cs : List V} : partK (some (off, n, g)) (.agg cs) K = optK (ldV g n (cs.drop off)) K := nrfl rfl
theorem idxK_sl {s : Nat} {xs : List (List D)} {k : IntKind} {z : Int} : idxK (some s) (.d (.sl xs)) (.d (.val (.int k z))) K = (0 ≤ z ∧ optK xs[z.toNat]? (Later (Hold fun row => row.length = s ∧ K (.iptr row)))) := nrfl rfl
theorem idxK_msl {s o k off len : Nat} {ki : IntKind} {z : Int} : idxK (some s) (.msl o k off len) (.d (.val (.int ki z))) K = (0 ≤ z ∧ z < (len : Int) ∧ s = k ∧ moveK (.ptr o k (off + z.toNat) 0) K) := nrfl rfl
theorem valK_val {c : Value} : valK (some c) K = K (.d (.val c)) := nrfl rfl
theorem bopV_val {op : BinOp} {t : TypeId} {c d : Value} : bopV P op t (.d (.val c)) (.d (.val d)) = bop P t op c d := nrfl rfl
theorem uopV_val {op : UnOp} {c : Value} : uopV op (.d (.val c)) = uop op c := nrfl rfl
theorem cvV_val {s d : TypeId} {c : Value} : cvV P s d (.d (.val c)) = cvOf P s d c := nrfl rfl
theorem cnvK_int {dr : Bool} {s d : TypeId} {k : IntKind} {z : Int} : cnvK P dr σ s d (.d (.val (.int k z))) K = valK (cvOf P s d (.int k z)) K := by
 refine propext ⟨fun h => ?_, fun h => .inl h⟩
 rcases h with h | ⟨_, _, zs, h, _⟩
 ·exact h
 ·cases h with | dn h => cases h
theorem cnvK_str {dr : Bool} {s d : TypeId} {z : ByteArray} : cnvK P dr σ s d (.d (.val (.string z))) K = valK (cvOf P s d (.string z)) K := by
 refine propext ⟨fun h => ?_, fun h => .inl h⟩
 rcases h with h | ⟨_, _, zs, h, _⟩
 ·exact h
 ·cases h with | dn h => cases h
theorem extK_tup {cs : List V} : extK (.tup cs) n K = optK cs[n]? K := nrfl rfl
theorem strK_val {t : TypeId} {s : ByteArray} {k : IntKind} {z : Int} : strK P t (.d (.val (.string s))) (.d (.val (.int k z))) K = (P.underlying t = some .string ∧ optK (strAt s z) (Later (Hold fun b => K (.d (.val (.int .u8 b.toNat)))))) := nrfl rfl
theorem mmV_f {k k' : IntKind} {a b : Int} : mmV false (.d (.val (.int k a))) (.d (.val (.int k' b))) = some (.int k (if b < a then b else a)) := nrfl rfl
theorem mmV_t {k k' : IntKind} {a b : Int} : mmV true (.d (.val (.int k a))) (.d (.val (.int k' b))) = some (.int k (if b > a then b else a)) := nrfl rfl
theorem lenK_sl {t e : TypeId} {xs : List (List D)} (h : elOf P t = some e) : lenK P t (.d (.sl xs)) K = K (.d (.val (.int .i64 xs.length))) := by
 have := run_elOf h; simp [lenK, lenT, this, lenV, optK, Later]
theorem lenK_nil {t e : TypeId} {a : Option Addr} {k : Nat} (h : elOf P t = some e) : lenK P t (.d (.val (.slice a n k))) K = K (.d (.val (.int .i64 n))) := by
 have := run_elOf h; simp [lenK, lenT, this, lenV, optK, Later]
theorem lenK_msl {t e : TypeId} {o k off len : Nat} (h : elOf P t = some e) : lenK P t (.msl o k off len) K = K (.d (.val (.int .i64 len))) := by
 have := run_elOf h; simp [lenK, lenT, this, lenV, optK, Later]
theorem lenK_str {t : TypeId} {s : ByteArray} (h : P.underlying t = some .string) : lenK P t (.d (.val (.string s))) K = K (.d (.val (.int .i64 s.size))) := by
 simp [lenK, lenT, h, lenV, optK, Later]
theorem storeK_ptr {o k i j : Nat} {y : V} : storeK (some n) (.ptr o k i j) y σ L = optK (σ o) (Later (Hold fun ow => ow.k = k ∧ optK ow.rows[i]? (Later (Hold fun row => rowOk y = true ∧ (∀ v ∈ toRow y, v.one = true) ∧ (toRow y).length = n ∧ j + n ≤ k ∧
   L .any (upd σ o (some ⟨k, ow.rows.set i (putRow row j (toRow y))⟩)))))) := nrfl rfl
def rowK (vs : List V) (K : List V → Prop) : Prop := K vs
theorem rowK_eq {vs : List V} {K : List V → Prop} : rowK vs K = K vs := nrfl rfl
theorem boxK_agg {cs : List V} : boxK (.agg cs) σ id L = numK id (Later (Hold fun id => numK cs.length (Later (Hold fun k => L (.ptr id k 0 0) (upd σ id (some ⟨k, [cs]⟩)))))) := by
 simp [boxK, rowOk, toRow, numK, Later]
theorem boxK_d {x : D} : boxK (.d x) σ id L = numK id (Later (Hold fun id => L (.ptr id 1 0 0) (upd σ id (some ⟨1, [[.d x]]⟩)))) := by
 simp [boxK, rowOk, toRow, numK, Later, V.one]
theorem allocK_some {z : Value} : allocK (some z) σ id L = (rowOk (constV z) = true ∧ numK id (Later (Hold fun id => numK (toRow (constV z)).length (Later (Hold fun k => rowK (toRow (constV z)) (Later (Hold fun cs => L (.ptr id k 0 0) (upd σ id (some ⟨k, [cs]⟩))))))))) := nrfl rfl
theorem evO_tmp {G : Nat → V} {t : Tmp} : evO G (.tmp t) = G t := nrfl rfl
theorem evO_const {G : Nat → V} {c : Value} : evO G (.const c) = constV c := nrfl rfl
theorem evO_func {G : Nat → V} {f : FuncId} : evO G (.func f) = .fn f [] := nrfl rfl
theorem constV_int {k : IntKind} {z : Int} : constV (.int k z) = .d (.val (.int k z)) := nrfl rfl
theorem constV_bool {b : Bool} : constV (.bool b) = .d (.val (.bool b)) := nrfl rfl
theorem constV_string {s : List UInt8} : constV (.string ⟨s.toArray⟩) = if s.length ≤ 9223372036854775807 then .d (.val (.string ⟨s.toArray⟩)) else .any := by simp [constV, constC, ByteArray.size]
theorem constV_slice {a : Option Addr} {k : Nat} : constV (.slice a n k) = .d (.val (.slice a n k)) := nrfl rfl
theorem constV_nilFunc : constV .nilFunc = .d (.val .nilFunc) := nrfl rfl
theorem constV_pointer {a : Option Addr} : constV (.pointer a) = .d (.val (.pointer a)) := nrfl rfl
theorem constV_map {a : Option Nat} : constV (.map a) = .d (.val (.map a)) := nrfl rfl
theorem constV_agg {l : List Value} : constV (.agg l.toArray) = .agg (l.map constC) := nrfl rfl
theorem constC_int {k : IntKind} {z : Int} : constC (.int k z) = .d (.val (.int k z)) := nrfl rfl
theorem constC_bool {b : Bool} : constC (.bool b) = .d (.val (.bool b)) := nrfl rfl
theorem constC_string {s : List UInt8} : constC (.string ⟨s.toArray⟩) = if s.length ≤ 9223372036854775807 then .d (.val (.string ⟨s.toArray⟩)) else .any := by simp [constC, ByteArray.size]
theorem constC_slice {a : Option Addr} {k : Nat} : constC (.slice a n k) = .d (.val (.slice a n k)) := nrfl rfl
theorem constC_nilFunc : constC .nilFunc = .d (.val .nilFunc) := nrfl rfl
theorem constC_pointer {a : Option Addr} : constC (.pointer a) = .d (.val (.pointer a)) := nrfl rfl
theorem constC_map {a : Option Nat} : constC (.map a) = .d (.val (.map a)) := nrfl rfl
theorem putF_at {t s : Tmp} {v : V} : putF fr (some s) v t = if t = s then v else fr t := nrfl rfl
theorem putF_none {v : V} : putF fr none v = fr := nrfl rfl
theorem upd_at {α : Type} {f : Nat → α} {x : α} : upd f n x m = if m = n then x else f m := nrfl rfl
theorem argF_at {l : List V} : argF l n = (l[n]?).getD .any := nrfl rfl
theorem toRow_agg {cs : List V} : toRow (.agg cs) = cs := nrfl rfl
theorem toRow_d {x : D} : toRow (.d x) = [.d x] := nrfl rfl
theorem toRow_ptr {o k i j : Nat} : toRow (.ptr o k i j) = [.ptr o k i j] := nrfl rfl
theorem toRow_msl {o k i j : Nat} : toRow (.msl o k i j) = [.msl o k i j] := nrfl rfl
theorem toRow_fn {f : FuncId} {cs : List V} : toRow (.fn f cs) = [.fn f cs] := nrfl rfl
theorem one_d {x : D} : V.one (.d x) = true := nrfl rfl
theorem one_ptr {o k i j : Nat} : V.one (.ptr o k i j) = true := nrfl rfl
theorem one_msl {o k i j : Nat} : V.one (.msl o k i j) = true := nrfl rfl
theorem one_fn {f : FuncId} {cs : List V} : V.one (.fn f cs) = true := nrfl rfl
theorem rowOk_agg {cs : List V} : rowOk (.agg cs) = true := nrfl rfl
theorem rowOk_d {x : D} : rowOk (.d x) = true := nrfl rfl
theorem rowOk_ptr {o k i j : Nat} : rowOk (.ptr o k i j) = true := nrfl rfl
theorem rowOk_msl {o k i j : Nat} : rowOk (.msl o k i j) = true := nrfl rfl
theorem rowOk_fn {f : FuncId} {cs : List V} : rowOk (.fn f cs) = true := nrfl rfl
theorem bldK_some {ok : Bool} {z : Value} {out : List V → Option (List V)} : bldK ok (some z) out K = (ok = true ∧ rowOk (constV z) = true ∧ optK (out (toRow (constV z))) (Later (Hold fun cs => K (.agg cs)))) := nrfl rfl
def stepB (pl : Option (Nat × Nat)) (v : V) (cs : List V) : Option (List V) :=
 match pl with
 | some (off, n) => if rowOk v = true ∧ (toRow v).length = n ∧ off + n ≤ cs.length then some (putRow cs off (toRow v)) else none
 | none => none
theorem stepB_some {off : Nat} {v : V} {cs : List V} : stepB (some (off, n)) v cs = if rowOk v = true ∧ (toRow v).length = n ∧ off + n ≤ cs.length then some (putRow cs off (toRow v)) else none := nrfl rfl
theorem bldV_nil {t : TypeId} {cs : List V} : bldV P t [] cs = some cs := nrfl rfl
theorem bldV_cons {t : TypeId} {j : Nat} {v : V} {r : List (Nat × V)} {cs : List V} : bldV P t ((j, v) :: r) cs = (stepB (plOf P t j) v cs).bind (bldV P t r) := by
 unfold stepB; rw [bldV]; split
 ·next h => rw [h]; simp only; split <;> rfl
 ·next h => rw [h]; rfl
theorem optBind_some {α β : Type} {x : α} {f : α → Option β} : (some x).bind f = f x := nrfl rfl
theorem asDs_nil : asDs [] = some [] := nrfl rfl
theorem asDs_cons {x : D} {r : List V} : asDs (.d x :: r) = (asDs r).map (x :: ·) := nrfl rfl
theorem asDs_data {l : List D} : asDs (l.map .d) = some l := by
 induction l with
 | nil => rfl
 | cons x r ih => rw [List.map_cons, asDs_cons, ih]; rfl
theorem asDs_msl {o k i j : Nat} {r : List V} : asDs (.msl o k i j :: r) = none := nrfl rfl
theorem asDs_ptr {o k i j : Nat} {r : List V} : asDs (.ptr o k i j :: r) = none := nrfl rfl
theorem asDs_fn {f : FuncId} {cs r : List V} : asDs (.fn f cs :: r) = none := nrfl rfl
def asRowsC (a : Option (List D)) (b : Option (List (List D))) : Option (List (List D)) := match a, b with | some d, some ds => some (d :: ds) | _, _ => none
theorem asRows_nil : asRows [] = some [] := nrfl rfl
theorem asRows_cons {r : List V} {rs : List (List V)} : asRows (r :: rs) = asRowsC (asDs r) (asRows rs) := nrfl rfl
theorem asRowsC_some {d : List D} {ds : List (List D)} : asRowsC (some d) (some ds) = some (d :: ds) := nrfl rfl
theorem asRowsC_none {b : Option (List (List D))} : asRowsC none b = none := nrfl rfl
theorem asRowsC_none' {a : Option (List D)} : asRowsC a none = none := by cases a <;> rfl
def bsF (a : Option (List (List D))) (dr : Bool) (len b : Nat) (K1 : List (List D) → Prop) (K2 : Unit → Prop) : Prop :=
 match a, dr || (len != 0 && b != 1) with
 | some ds, true => K1 ds
 | _, _ => dr = false ∧ K2 ()
theorem bsK_some {b : Nat} {z : List V} {ord : Bool} {len : Nat} {vs : List V} : bsK (some (n, b, z)) dr ord len vs σ id L =
  (ord = true ∧ vs.length = len ∧ len * n ≤ 16777216 ∧ (∀ v ∈ vs, rowOk v = true ∧ (toRow v).length = n) ∧ bsF (asRows (vs.map toRow)) dr len b (Later (Hold fun ds => L (.d (.sl ds)) σ)) (Later (Hold fun _ => L (.msl id n 0 len) (upd σ id (some ⟨n, vs.map toRow⟩))))) := nrfl rfl
theorem bsF_some {ds : List (List D)} {len b : Nat} {K1 : List (List D) → Prop} {K2 : Unit → Prop} (hb : (b == 1) = false) : bsF (some ds) dr (len + 1) b K1 K2 = K1 ds := by
 have : (b != 1) = true := by unfold bne; rw [hb]; rfl
 unfold bsF; rw [this]; cases dr <;> rfl
theorem bsF_draw {ds : List (List D)} {len b : Nat} {K1 : List (List D) → Prop} {K2 : Unit → Prop} : bsF (some ds) true len b K1 K2 = K1 ds := nrfl rfl
theorem bsF_one {a : Option (List (List D))} {len : Nat} {K1 : List (List D) → Prop} {K2 : Unit → Prop} : bsF a false len 1 K1 K2 = K2 () := by cases a <;> simp [bsF]
theorem bsF_zero {a : Option (List (List D))} {b : Nat} {K1 : List (List D) → Prop} {K2 : Unit → Prop} : bsF a false 0 b K1 K2 = K2 () := by cases a <;> simp [bsF]
theorem bsF_none {len b : Nat} {K1 : List (List D) → Prop} {K2 : Unit → Prop} : bsF none false len b K1 K2 = K2 () := by simp [bsF]
theorem inOrder_nil {i : Nat} : inOrder i [] = true := nrfl rfl
theorem inOrder_cons {i j : Nat} {x : Operand} {r : List (Nat × Operand)} : inOrder i ((j, x) :: r) = (j == i && inOrder (i + 1) r) := nrfl rfl
theorem mkK_some {b : Nat} {z : List V} {l c : Int} : mkK (some (n, b, z)) σ id (.d (.val (.int .i64 l))) (.d (.val (.int .i64 c))) L =
  (0 ≤ l ∧ l ≤ c ∧ c.toNat * b ≤ 2 ^ 48 ∧ ∃ z', SealAll Heap.none z z' ∧ L (.msl id n 0 l.toNat) (upd σ id (some ⟨n, List.replicate l.toNat z'⟩))) := nrfl rfl
theorem nilK_ptr {o k i j : Nat} : nilK (.ptr o k i j) K = K (.ptr o k i j) := by simp [nilK, isPtr]
theorem nilK_iptr {cs : List D} : nilK (.iptr cs) K = K (.iptr cs) := by simp [nilK, isPtr]
theorem cutK_str {t : TypeId} {s : ByteArray} {l h : Option Int} : cutK P t (.d (.val (.string s))) (some l) (some h) K = (P.underlying t = some .string ∧ optK (cutStr s l h) (Later (Hold fun r => K (.d (.val (.string r)))))) := nrfl rfl
theorem cutK_sl {t : TypeId} {xs : List (List D)} {l h : Option Int} : cutK P t (.d (.sl xs)) (some l) (some h) K = sliceK (esOf P t) xs l h K := nrfl rfl
theorem cutL_map {β : Type} {f : β → List D} {ys : List β} {l h : Option Int} : cutL (ys.map f) l h = (cutL ys l h).map (List.map f) := by
 unfold cutL; simp only [List.length_map]; split
 ·simp [List.map_take, List.map_drop]
 ·rfl
theorem sliceK_map {β : Type} {f : β → List D} {ys : List β} {s : Nat} {l h : Option Int} (hf : ∀ x, (f x).length = s) : sliceK (some s) (ys.map f) l h K = optK (cutL ys l h) (Later (Hold fun r => K (.d (.sl (r.map f))))) := by
 unfold sliceK
 rw [cutL_map]
 cases cutL ys l h with
 | none => simp [optK]
 | some r => simp [optK, hf, Later]
theorem boundV_none {G : Nat → V} : boundV G none = some none := nrfl rfl
theorem boundV_some {G : Nat → V} {x : Operand} : boundV G (some x) = (intOfV (evO G x)).map some := nrfl rfl
theorem intOfV_int {k : IntKind} {z : Int} : intOfV (.d (.val (.int k z))) = some z := nrfl rfl
theorem app_msl {n byt o len : Nat} {z : List V} {sq : Bool} {y : V} {ow : Own} {src : List (List V)} (hsq : sq = true) (h2 : σ o = some ow) (h3 : ow.k = n) (h4 : ow.rows.length = len) (h5 : srcRows σ y = some src) (h6 : ∀ r ∈ src, r.length = n) (h7 : RowsOne src)
  (h8 : (2 * (len + src.length) + 1000) * byt ≤ 2 ^ 48) (k : L (.msl id n 0 (len + src.length)) (upd (del σ o) id (some ⟨n, ow.rows ++ src⟩))) : appK (some (n, byt, z)) sq σ id (.msl o n 0 len) y L :=
 ⟨n, byt, z, _, rfl, hsq, .inl rfl, .inl ⟨o, len, ow, src, rfl, h2, h3, h4, h5, h6, h7, h8, k⟩⟩
theorem app_own {n byt : Nat} {z : List V} {sq : Bool} {y : V} {src : List (List V)} (hsq : sq = true) (h5 : srcRows σ y = some src) (hne : src ≠ []) (h6 : ∀ r ∈ src, r.length = n)
  (h8 : (2 * src.length + 1000) * byt ≤ 2 ^ 48) (k : L (.msl id n 0 src.length) (upd σ id (some ⟨n, src⟩))) : appK (some (n, byt, z)) sq σ id (.d (.val (.slice none 0 0))) y L :=
 have e : upd (del σ id) id (some ⟨n, src⟩) = upd σ id (some ⟨n, src⟩) := by
  funext m; by_cases h : m = id
  ·rw [h, upd_same, upd_same]
  ·rw [upd_ne _ _ h, upd_ne _ _ h, del, if_neg h]
 ⟨n, byt, z, _, rfl, hsq, .inl rfl, .inr (.inl ⟨id, src, rfl, h5, hne, h6, h8, e ▸ k⟩)⟩
theorem app_data {n byt : Nat} {z : List V} {sq : Bool} {ys : List (List D)} (hsq : sq = true) (h6 : ∀ r ∈ ys, r.length = n)
  (h8 : (2 * ys.length + 1000) * byt ≤ 2 ^ 48) (k : L (.d (.sl ys)) σ) : appK (some (n, byt, z)) sq σ id (.d (.val (.slice none 0 0))) (.d (.sl ys)) L :=
 ⟨n, byt, z, _, rfl, hsq, .inl rfl, .inr (.inr ⟨ys, rfl, rfl, h6, h8, k⟩)⟩
theorem rowsOne_data {rows : List (List D)} : RowsOne (rows.map (·.map .d)) := by
 intro r hr v hv
 obtain ⟨d, _, rfl⟩ := List.mem_map.1 hr
 obtain ⟨x, _, rfl⟩ := List.mem_map.1 hv
 rfl
theorem srcRows_sl {ys : List (List D)} : srcRows σ (.d (.sl ys)) = some (ys.map (·.map .d)) := nrfl rfl
theorem del_at {o : Nat} : del σ o m = if m = o then none else σ m := nrfl rfl
end forms
section vals
variable {t : TypeId} {k : IntKind} {a b : Int} {x y : ByteArray} {u v : Bool}
theorem bop_add : bop P t .add (.int k a) (.int k b) = some (.int k (k.wrap (a + b))) := by simp [bop]
theorem bop_sub : bop P t .sub (.int k a) (.int k b) = some (.int k (k.wrap (a - b))) := by simp [bop]
theorem bop_mul : bop P t .mul (.int k a) (.int k b) = some (.int k (k.wrap (a * b))) := by simp [bop]
theorem bop_quo (h : b ≠ 0) : bop P t .quo (.int k a) (.int k b) = some (.int k (k.wrap (a.tdiv b))) := by simp [bop, h]
theorem bop_rem (h : b ≠ 0) : bop P t .rem (.int k a) (.int k b) = some (.int k (a.tmod b)) := by simp [bop, h]
theorem bop_eql : bop P t .eql (.int k a) (.int k b) = some (.bool (a == b)) := by simp [bop]
theorem bop_neq : bop P t .neq (.int k a) (.int k b) = some (.bool (a != b)) := by simp [bop]
theorem bop_lss : bop P t .lss (.int k a) (.int k b) = some (.bool (decide (a < b))) := by simp [bop]
theorem bop_leq : bop P t .leq (.int k a) (.int k b) = some (.bool (decide (a ≤ b))) := by simp [bop]
theorem bop_gtr : bop P t .gtr (.int k a) (.int k b) = some (.bool (decide (b < a))) := by simp [bop]
theorem bop_geq : bop P t .geq (.int k a) (.int k b) = some (.bool (decide (b ≤ a))) := by simp [bop]
theorem bop_str_eql : bop P t .eql (.string x) (.string y) = some (.bool (x.toList == y.toList)) := by simp [bop]
theorem bop_str_neq : bop P t .neq (.string x) (.string y) = some (.bool (!(x.toList == y.toList))) := by simp [bop]
theorem bop_str_lss : bop P t .lss (.string x) (.string y) = some (.bool (Op.bytesLess x.toList y.toList)) := by simp [bop]
theorem bop_str_leq : bop P t .leq (.string x) (.string y) = some (.bool (Op.bytesLess x.toList y.toList || x.toList == y.toList)) := by simp [bop]
theorem bop_str_gtr : bop P t .gtr (.string x) (.string y) = some (.bool (!(Op.bytesLess x.toList y.toList || x.toList == y.toList))) := by simp [bop]
theorem bop_str_geq : bop P t .geq (.string x) (.string y) = some (.bool (!Op.bytesLess x.toList y.toList)) := by simp [bop]
theorem bop_bool_eql (h : boolT P t = true) : bop P t .eql (.bool u) (.bool v) = some (.bool (u == v)) := by simp [bop, h]
theorem bop_bool_neq (h : boolT P t = true) : bop P t .neq (.bool u) (.bool v) = some (.bool (!(u == v))) := by simp [bop, h]
theorem uop_not : uop .not (.bool u) = some (.bool !u) := nrfl rfl
theorem uop_neg : uop .neg (.int k a) = some (.int k (k.wrap (0 - a))) := nrfl rfl
theorem wrap_i64 (h1 : -9223372036854775808 ≤ a) (h2 : a ≤ 9223372036854775807) : IntKind.wrap .i64 a = a := by
 simp only [IntKind.wrap, IntKind.bits, IntKind.signed, Bool.true_and]
 split <;> simp only [decide_eq_true_eq, ge_iff_le] at * <;> omega
end vals
theorem pcallK_intro [Glb] {f : FuncId} {caps args : List V} {v : V} {K : V → Prop} (h : Cn P f (args ++ caps) v) (hr : V.refsL NoRef (args ++ caps)) (k : K v) : pcallK P σ (.fn f caps) args K :=
 ⟨v, args ++ caps, h, ⟨hr, .inl (SealAll.refl _)⟩, k⟩
theorem callK_pure [Glb] {f : FuncId} {caps args : List V} {v : V} {L : V → Heap → Prop} (h : Cn P f (args ++ caps) v) (hr : V.refsL NoRef (args ++ caps)) (k : L v σ) : callK P (.fn f caps) args σ N id L :=
 ⟨v, σ, .inl ⟨args ++ caps, h, ⟨hr, .inl (SealAll.refl _)⟩, rfl⟩, k⟩
theorem SealV.tupL {cs ds : List V} (h : SealAll σ cs ds) : SealV σ (.tup cs) (.tup ds) := .tup h.get.1 fun i hi hj => h.get.2 i hi hj
theorem SealV.nil {a : Option Addr} {k : Nat} : SealV σ (.d (.val (.slice a 0 k))) (.d (.sl [])) := .d (.nil a k)
theorem callK_conv [Glb] {f : FuncId} {caps args args' : List V} {v : V} {L : V → Heap → Prop} (h : Cn P f args' v) (hs : SealAll Heap.none (args ++ caps) args') (hr : V.refsL NoRef args') (k : L v σ) : callK P (.fn f caps) args σ N id L :=
 ⟨v, σ, .inl ⟨args', h, ⟨hr, .inl hs⟩, rfl⟩, k⟩
theorem callK_look [Glb] {f : FuncId} {caps args args' : List V} {v : V} {L : V → Heap → Prop} (h : Cn P f args' v) (hs : SealAll σ (args ++ caps) args') (hr : V.refsL NoRef args') (hv : v.flat) (k : L v σ) : callK P (.fn f caps) args σ N id L :=
 ⟨v, σ, .inl ⟨args', h, ⟨hr, .inr ⟨hs, hv⟩⟩, rfl⟩, k⟩
end
end Go.Iso
namespace Go.Iso
open Go Go.RowKit
set_option linter.unusedSimpArgs false
set_option linter.unusedVariables false
def frL : List (Nat × V) → Nat → V
 | [], _ => .any
 | (s, v) :: l, t => if t = s then v else frL l t
def hpL : List (Nat × Own) → Heap
 | [], _ => none
 | (s, x) :: l, o => if o = s then some x else hpL l o
def mkS (l : List (Nat × V)) (h : List (Nat × Own)) (n : Nat) : St := ⟨frL l, hpL h, n⟩
theorem frL_nil {t : Nat} : frL [] t = .any := nrfl rfl
theorem frL_cons {s t : Nat} {v : V} {l : List (Nat × V)} : frL ((s, v) :: l) t = if t = s then v else frL l t := nrfl rfl
theorem hpL_cons {s o : Nat} {x : Own} {l : List (Nat × Own)} : hpL ((s, x) :: l) o = if o = s then some x else hpL l o := nrfl rfl
theorem hpL_nil : hpL [] = Heap.none := nrfl rfl
theorem mkS_eq {l : List (Nat × V)} {h : List (Nat × Own)} {n : Nat} : mkS l h n = ⟨frL l, hpL h, n⟩ := nrfl rfl
def okF (fr : Nat → V) (n : Nat) : List (Nat × V) → Prop
 | [] => True
 | (s, v) :: l => fr s = v ∧ v.refs (· < n) ∧ okF fr n l
def okRows (n : Nat) (rows : List (List V)) : Prop := ∀ r ∈ rows, ∀ v ∈ r, v.refs (· < n)
def okH (σ : Heap) (n : Nat) : List (Nat × Own) → Prop
 | [] => True
 | (o, x) :: l => σ o = some x ∧ o < n ∧ okRows n x.rows ∧ okH σ n l
theorem okF_nil {fr : Nat → V} {n : Nat} : okF fr n [] = True := nrfl rfl
theorem okF_cons {fr : Nat → V} {n s : Nat} {v : V} {l : List (Nat × V)} : okF fr n ((s, v) :: l) = (fr s = v ∧ v.refs (· < n) ∧ okF fr n l) := nrfl rfl
theorem okH_nil {σ : Heap} {n : Nat} : okH σ n [] = True := nrfl rfl
theorem okH_cons {σ : Heap} {n o : Nat} {x : Own} {l : List (Nat × Own)} : okH σ n ((o, x) :: l) = (σ o = some x ∧ o < n ∧ okRows n x.rows ∧ okH σ n l) := nrfl rfl
theorem okRows_nil {n : Nat} : okRows n [] = True := by simp [okRows]
theorem okRows_cons {n : Nat} {r : List V} {l : List (List V)} : okRows n (r :: l) = (V.refsL (· < n) r ∧ okRows n l) := by
 have : ∀ r : List V, V.refsL (· < n) r ↔ ∀ v ∈ r, v.refs (· < n) := by
  intro r; induction r with
  | nil => simp [V.refsL]
  | cons v r ih => simp [V.refsL, ih]
 simp [okRows, this]
theorem okRows_data {n : Nat} {rows : List (List D)} : okRows n (rows.map (·.map .d)) := by
 intro r hr v hv
 obtain ⟨ds, _, rfl⟩ := List.mem_map.1 hr
 obtain ⟨x, _, rfl⟩ := List.mem_map.1 hv
 unfold V.refs; trivial
theorem refs_d {S : Nat → Prop} {x : D} : V.refs S (.d x) = True := by simp [V.refs]
theorem refs_any {S : Nat → Prop} : V.refs S .any = True := by simp [V.refs]
theorem refs_iptr {S : Nat → Prop} {cs : List D} : V.refs S (.iptr cs) = True := by simp [V.refs]
theorem refs_ptr {S : Nat → Prop} {o k i j : Nat} : V.refs S (.ptr o k i j) = S o := by simp [V.refs]
theorem refs_msl {S : Nat → Prop} {o k i j : Nat} : V.refs S (.msl o k i j) = S o := by simp [V.refs]
theorem refs_agg {S : Nat → Prop} {cs : List V} : V.refs S (.agg cs) = V.refsL S cs := by simp [V.refs]
theorem refs_tup {S : Nat → Prop} {cs : List V} : V.refs S (.tup cs) = V.refsL S cs := by simp [V.refs]
theorem refs_fn {S : Nat → Prop} {f : FuncId} {cs : List V} : V.refs S (.fn f cs) = V.refsL S cs := by simp [V.refs]
theorem refsL_nil {S : Nat → Prop} : V.refsL S [] = True := by simp [V.refsL]
theorem refsL_cons {S : Nat → Prop} {v : V} {r : List V} : V.refsL S (v :: r) = (V.refs S v ∧ V.refsL S r) := by simp [V.refsL]
theorem refsL_data {S : Nat → Prop} {cs : List D} : V.refsL S (cs.map .d) = True := by
 induction cs with
 | nil => exact refsL_nil
 | cons x r ih => rw [List.map_cons, refsL_cons, refs_d, ih, and_self]
theorem weak_of {st : St} {l : List (Nat × V)} {h : List (Nat × Own)} {n : Nat} (hn : n ≤ st.n) (hf : okF st.fr n l) (hh : okH st.σ n h) : Weak st (mkS l h n) where
 n := hn
 fr := fun t => by
  show frL l t = .any ∨ (frL l t = st.fr t ∧ (frL l t).refs (· < n))
  clear hh
  induction l with
  | nil => exact .inl rfl
  | cons p l ih =>
   obtain ⟨s, v⟩ := p
   rw [okF_cons] at hf
   rw [frL_cons]
   split
   ·next e => subst e; exact .inr ⟨hf.1.symm, hf.2.1⟩
   ·exact ih hf.2.2
 σ := fun o x ho => by
  change hpL h o = some x at ho
  clear hf
  induction h with
  | nil => cases ho
  | cons p h ih =>
   obtain ⟨s, y⟩ := p
   rw [okH_cons] at hh
   rw [hpL_cons] at ho
   split at ho
   ·next e => cases ho; subst e; exact ⟨hh.1, hh.2.1, hh.2.2.1⟩
   ·exact ih hh.2.2.2 ho
section
variable {P : Program} {N B n : Nat} {Q : Exit → St → Prop} {st : St} {α : Type}
def LoopQ (B n : Nat) (l : α → List (Nat × V)) (h : α → List (Nat × Own)) (Inv : α → Prop) (μ : α → Nat) (x : α) (s : St) : Prop :=
 ∃ y, Inv y ∧ μ y < μ x ∧ n ≤ s.n ∧ okF s.fr n (l y) ∧ okH s.σ n (h y)
theorem AW.rounds [Glb] (hm : P.follows .mixedOrders = true) {c : Code} (hok : okB N c = true) (n : Nat) (l : α → List (Nat × V)) (h : α → List (Nat × Own)) (Inv : α → Prop) (μ : α → Nat) (x0 : α) (hB : B ≤ n)
  (h0 : Inv x0) (h1 : n ≤ st.n) (h2 : okF st.fr n (l x0)) (h3 : okH st.σ n (h x0))
  (hr : ∀ x, Inv x → vc P N B c (thenQ (Later (Hold (LoopQ B n l h Inv μ x))) Q) (mkS (l x) (h x) n)) : AW P N B (.loop c) Q st := by
 refine AW.loopw (fun m s => ∃ x, Inv x ∧ μ x = m ∧ s = mkS (l x) (h x) n) (m := μ x0) ⟨_, weak_of h1 h2 h3, hB, x0, h0, rfl, rfl⟩ ?_
 rintro m s ⟨x, hx, rfl, rfl⟩
 refine (vc_sound hm c _ _ hok (hr x hx)).mono fun e s hs => ?_
 cases e with
 | normal =>
  obtain ⟨y, k1, k2, k3, k4, k5⟩ := hs
  exact ⟨_, weak_of k3 k4 k5, hB, μ y, k2, y, k1, rfl, rfl⟩
 | _ => exact hs
end
end Go.Iso
namespace Go.Iso
open Go Go.RowKit
abbrev u32V (x : Int) : List D := [.val (.int .u32 x)]
abbrev i64V (x : Int) : List D := [.val (.int .i64 x)]
abbrev strV (s : ByteArray) : List D := [.val (.string s)]
abbrev slD {α : Type} (f : α → List D) (l : List α) : D := .sl (l.map f)
abbrev slV {α : Type} (f : α → List D) (l : List α) : V := .d (.sl (l.map f))
end Go.Iso
namespace Go.Iso
open Go Go.RowKit
structure RatA where
 neg : Bool
 num : List Int
 den : List Int
def RatA.enc (r : RatA) : List D := [.val (.bool r.neg), slD u32V r.num, slD u32V r.den]
inductive NodeA where
 | mk (op : Int) (name : ByteArray) (num : RatA) (kids : List NodeA)
def NodeA.kids : NodeA → List NodeA | .mk _ _ _ k => k
def NodeA.enc : NodeA → List D
 | .mk op name num kids => [.val (.int .i64 op), .val (.string name), .val (.bool num.neg), slD u32V num.num, slD u32V num.den, .sl (kids.map NodeA.enc)]
structure PairA where
 what : NodeA
 with_ : NodeA
 rates : List NodeA
def PairA.enc (p : PairA) : List D := p.what.enc ++ p.with_.enc ++ [slD NodeA.enc p.rates]
structure MonoA where
 exps : List Int
 coef : RatA
def MonoA.enc (m : MonoA) : List D := [slD i64V m.exps, .val (.bool m.coef.neg), slD u32V m.coef.num, slD u32V m.coef.den]
structure PolyA where
 n : Int
 terms : List MonoA
def PolyA.enc (p : PolyA) : List D := [.val (.int .i64 p.n), slD MonoA.enc p.terms]
structure SquareA where
 weight : RatA
 poly : PolyA
def SquareA.enc (s : SquareA) : List D := [.val (.bool s.weight.neg), slD u32V s.weight.num, slD u32V s.weight.den, .val (.int .i64 s.poly.n), slD MonoA.enc s.poly.terms]
inductive CertA where
 | mk (kind : Int) (nums : List RatA) (polys : List PolyA) (squares : List SquareA) (kids : List CertA)
def CertA.enc : CertA → List D
 | .mk kind nums polys squares kids => [.val (.int .i64 kind), slD RatA.enc nums, slD PolyA.enc polys, slD SquareA.enc squares, .sl (kids.map CertA.enc)]
inductive ProofA where
 | mk (rule name : ByteArray) (forms : List NodeA) (subst : List PairA) (path : List Int) (args : List ByteArray) (cert : CertA) (kids : List ProofA)
def ProofA.enc : ProofA → List D
 | .mk rule name forms subst path args cert kids =>
  [.val (.string rule), .val (.string name), slD NodeA.enc forms, slD PairA.enc subst, slD i64V path, slD strV args] ++ cert.enc ++ [.sl (kids.map ProofA.enc)]
def ProofA.kids : ProofA → List ProofA | .mk _ _ _ _ _ _ _ k => k
structure StepA where
 what : ProofA
 kids : List Int
def StepA.enc (s : StepA) : List D := s.what.enc ++ [slD i64V s.kids]
theorem NodeA.enc_mk {op : Int} {name : ByteArray} {num : RatA} {kids : List NodeA} :
  NodeA.enc (.mk op name num kids) = [.val (.int .i64 op), .val (.string name), .val (.bool num.neg), slD u32V num.num, slD u32V num.den, slD NodeA.enc kids] := by
 rw [NodeA.enc]
theorem CertA.enc_mk {kind : Int} {nums : List RatA} {polys : List PolyA} {squares : List SquareA} {kids : List CertA} :
  CertA.enc (.mk kind nums polys squares kids) = [.val (.int .i64 kind), slD RatA.enc nums, slD PolyA.enc polys, slD SquareA.enc squares, slD CertA.enc kids] := by
 rw [CertA.enc]
theorem NodeA.enc_len (a : NodeA) : a.enc.length = 6 := by cases a; rw [NodeA.enc_mk]; rfl
theorem CertA.enc_len (a : CertA) : a.enc.length = 5 := by cases a; rw [CertA.enc_mk]; rfl
theorem ProofA.enc_mk {rule name : ByteArray} {forms : List NodeA} {subst : List PairA} {path : List Int} {args : List ByteArray} {kind : Int} {nums : List RatA} {polys : List PolyA} {squares : List SquareA} {ck : List CertA} {kids : List ProofA} :
  ProofA.enc (.mk rule name forms subst path args (.mk kind nums polys squares ck) kids) =
   [.val (.string rule), .val (.string name), slD NodeA.enc forms, slD PairA.enc subst, slD i64V path, slD strV args, .val (.int .i64 kind), slD RatA.enc nums, slD PolyA.enc polys, slD SquareA.enc squares, slD CertA.enc ck, slD ProofA.enc kids] := by
 rw [ProofA.enc, CertA.enc_mk]; rfl
theorem ProofA.enc_len (a : ProofA) : a.enc.length = 12 := by
 obtain ⟨r, n, f, s, p, as, ⟨k, ns, ps, ss, ck⟩, ks⟩ := a; rw [ProofA.enc_mk]; rfl
theorem NodeA.size_kid {op : Int} {name : ByteArray} {num : RatA} {kids : List NodeA} {x : NodeA} (h : x ∈ kids) : SizeOf.sizeOf x < SizeOf.sizeOf (NodeA.mk op name num kids) := by
 have := List.sizeOf_lt_of_mem h
 simp only [NodeA.mk.sizeOf_spec]; omega
theorem CertA.size_kid {kind : Int} {nums : List RatA} {polys : List PolyA} {squares : List SquareA} {kids : List CertA} {x : CertA} (h : x ∈ kids) : SizeOf.sizeOf x < SizeOf.sizeOf (CertA.mk kind nums polys squares kids) := by
 have := List.sizeOf_lt_of_mem h
 simp only [CertA.mk.sizeOf_spec]; omega
theorem ProofA.size_kid {rule name : ByteArray} {forms : List NodeA} {subst : List PairA} {path : List Int} {args : List ByteArray} {cert : CertA} {kids : List ProofA} {x : ProofA} (h : x ∈ kids) :
  SizeOf.sizeOf x < SizeOf.sizeOf (ProofA.mk rule name forms subst path args cert kids) := by
 have := List.sizeOf_lt_of_mem h
 simp only [ProofA.mk.sizeOf_spec]; omega
theorem ldV_all {cs : List D} {n : Nat} (h : cs.length = n) : ldV true n (cs.map .d) = some (.agg (cs.map .d)) := by
 unfold ldV
 rw [if_pos rfl, if_pos (by simp [h]), List.take_of_length_le (by simp [h])]
theorem ldV_node {x : NodeA} : ldV true 6 (x.enc.map .d) = some (.agg (x.enc.map .d)) := ldV_all x.enc_len
theorem ldV_cert {x : CertA} : ldV true 5 (x.enc.map .d) = some (.agg (x.enc.map .d)) := ldV_all x.enc_len
theorem ldV_proof {x : ProofA} : ldV true 12 (x.enc.map .d) = some (.agg (x.enc.map .d)) := ldV_all x.enc_len
theorem PairA.enc_len (p : PairA) : p.enc.length = 13 := by simp [PairA.enc, NodeA.enc_len]
theorem StepA.enc_len (p : StepA) : p.enc.length = 13 := by simp [StepA.enc, ProofA.enc_len]
theorem ldV_pair {x : PairA} : ldV true 13 (x.enc.map .d) = some (.agg (x.enc.map .d)) := ldV_all x.enc_len
theorem ldV_step {x : StepA} : ldV true 13 (x.enc.map .d) = some (.agg (x.enc.map .d)) := ldV_all x.enc_len
theorem ldV_pair0 {p : PairA} : ldV true 6 (p.enc.map .d) = some (.agg (p.what.enc.map .d)) := by
 unfold ldV PairA.enc
 rw [if_pos rfl, if_pos (by simp [NodeA.enc_len]), List.map_append, List.map_append, List.append_assoc, List.take_append_of_le_length (by simp [NodeA.enc_len]), List.take_of_length_le (by simp [NodeA.enc_len])]
theorem ldV_pair1 {p : PairA} : ldV true 6 ((p.enc.map .d).drop 6) = some (.agg (p.with_.enc.map .d)) := by
 have e : (p.enc.map V.d).drop 6 = p.with_.enc.map .d ++ [.d (slD NodeA.enc p.rates)] := by
  unfold PairA.enc
  rw [List.map_append, List.map_append, List.append_assoc, List.drop_append_of_le_length (by simp [NodeA.enc_len]), List.drop_eq_nil_of_le (by simp [NodeA.enc_len]), List.nil_append]; rfl
 rw [e]; unfold ldV
 rw [if_pos rfl, if_pos (by simp [NodeA.enc_len]), List.take_append_of_le_length (by simp [NodeA.enc_len]), List.take_of_length_le (by simp [NodeA.enc_len])]
theorem ldV_pair2 {p : PairA} : ldV false 1 ((p.enc.map .d).drop 12) = some (.d (slD NodeA.enc p.rates)) := by
 have e : (p.enc.map V.d).drop 12 = [.d (slD NodeA.enc p.rates)] := by
  unfold PairA.enc
  rw [List.map_append, List.drop_append_of_le_length (by simp [NodeA.enc_len]), List.drop_eq_nil_of_le (by simp [NodeA.enc_len]), List.nil_append]; rfl
 rw [e]; rfl
theorem all_one {l : List D} : (∀ v ∈ l.map V.d, v.one = true) = True := by
 simp only [eq_iff_iff, iff_true]
 intro v hv
 obtain ⟨x, _, rfl⟩ := List.mem_map.1 hv
 rfl
abbrev aggV (cs : List D) : V := .agg (cs.map .d)
theorem bytes_loop (s : ByteArray) : ∀ (n i : Nat) (acc : List UInt8), s.size - i = n → ByteArray.toList.loop s i acc = acc.reverse ++ s.data.toList.drop i := by
 intro n
 induction n with
 | zero =>
  intro i acc h
  rw [ByteArray.toList.loop]
  have : ¬ i < s.size := by omega
  rw [if_neg this, List.drop_eq_nil_of_le (by simp; have : s.size = s.data.size := rfl; omega)]
  simp
 | succ n ih =>
  intro i acc h
  rw [ByteArray.toList.loop]
  have hlt : i < s.size := by omega
  rw [if_pos hlt, ih (i + 1) _ (by omega)]
  have h2 : i < s.data.toList.length := by simpa using hlt
  rw [List.drop_eq_getElem_cons h2]
  simp [ByteArray.get!, hlt]
theorem bytes_toList (s : ByteArray) : s.toList = s.data.toList := by
 rw [ByteArray.toList, bytes_loop s _ 0 [] rfl]; simp
theorem toList_inj {a b : ByteArray} (h : a.toList = b.toList) : a = b := by
 rw [bytes_toList, bytes_toList] at h
 cases a; cases b; simp at h; rw [h]
theorem bytes_eq {a b : ByteArray} : (a.toList == b.toList) = true ↔ a = b :=
 ⟨fun h => toList_inj (by simpa using h), fun h => by rw [h]; simp⟩
end Go.Iso
namespace Go.Iso
open Go Go.RowKit
def sgn (b : Bool) : Int := if b then -1 else 1
def cmpDown (xs ys : List Int) : Nat → Int
 | 0 => 0
 | k + 1 => if xs.getD k 0 = ys.getD k 0 then cmpDown xs ys k else sgn (decide (xs.getD k 0 < ys.getD k 0))
def cmpWords (xs ys : List Int) : Int := if xs.length = ys.length then cmpDown xs ys xs.length else sgn (decide (xs.length < ys.length))
mutual
def NodeA.cmp : NodeA → NodeA → Int
 | .mk o n r ks, .mk o' n' r' ks' =>
  if o ≠ o' then sgn (decide (o < o')) else
  if n ≠ n' then sgn (Op.bytesLess n.toList n'.toList) else
  if r.neg ≠ r'.neg then sgn r'.neg else
  if cmpWords r.num r'.num ≠ 0 then cmpWords r.num r'.num else
  if cmpWords r.den r'.den ≠ 0 then cmpWords r.den r'.den else
  if ks.length ≠ ks'.length then sgn (decide (ks.length < ks'.length)) else NodeA.cmpL ks ks'
def NodeA.cmpL : List NodeA → List NodeA → Int
 | x :: xs, y :: ys => if NodeA.cmp x y ≠ 0 then NodeA.cmp x y else NodeA.cmpL xs ys
 | _, _ => 0
end
end Go.Iso
namespace Go.Iso
open Go Go.RowKit
set_option linter.unusedSimpArgs false
set_option linter.unusedVariables false
mutual
/-- A value whose blocks have other numbers. -/
def V.ren (r : Nat → Nat) : V → V
 | .any => .any
 | .d x => .d x
 | .agg cs => .agg (V.renL r cs)
 | .tup cs => .tup (V.renL r cs)
 | .ptr o k i j => .ptr (r o) k i j
 | .iptr cs => .iptr cs
 | .msl o k off len => .msl (r o) k off len
 | .fn f cs => .fn f (V.renL r cs)
 | .mp o => .mp (r o)
 | .ifc t v => .ifc t (V.ren r v)
def V.renL (r : Nat → Nat) : List V → List V
 | [] => []
 | v :: l => V.ren r v :: V.renL r l
end
theorem V.renL_map {r : Nat → Nat} : ∀ l : List V, V.renL r l = l.map (V.ren r)
 | [] => by simp [V.renL]
 | v :: l => by simp [V.renL, V.renL_map l]
def Own.ren (r : Nat → Nat) (x : Own) : Own := ⟨x.k, x.rows.map (·.map (V.ren r))⟩
theorem MapRow.ren {r : Nat → Nat} {row : List V} (h : MapRow row) : MapRow (row.map (V.ren r)) := by
 obtain ⟨k, v, rfl, hk, hv⟩ := h
 refine ⟨k.ren r, v.ren r, rfl, ?_, ?_⟩
 ·rcases hk with rfl | ⟨s, rfl⟩
  ·exact .inl (by simp [V.ren])
  ·exact .inr ⟨s, by simp [V.ren]⟩
 ·rcases hv with rfl | ⟨y, rfl⟩
  ·exact .inl (by simp [V.ren])
  ·exact .inr ⟨y, by simp [V.ren]⟩
theorem V.ren_d {r : Nat → Nat} {v : V} {y : D} (h : v.ren r = .d y) : v = .d y := by
 cases v <;> simp [V.ren] at h
 rw [h]
theorem V.ren_any {r : Nat → Nat} {v : V} (h : v.ren r = .any) : v = .any := by
 cases v <;> simp [V.ren] at h
 rfl
theorem MapRow.unren {r : Nat → Nat} {row : List V} (h : MapRow (row.map (V.ren r))) : MapRow row := by
 obtain ⟨k, v, he, hk, hv⟩ := h
 match row, he with
 | [a, b], he =>
  simp only [List.map_cons, List.map_nil, List.cons.injEq, and_true] at he
  obtain ⟨rfl, rfl⟩ := he
  exact ⟨a, b, rfl, hk.imp V.ren_any fun ⟨s, h⟩ => ⟨s, V.ren_d h⟩, hv.imp V.ren_any fun ⟨s, h⟩ => ⟨s, V.ren_d h⟩⟩
theorem BlkX.ren {r : Nat → Nat} {w : World} {b : Nat} {c : Array Value} {e : TypeId} {x : Own} (h : BlkX w b c e x) : BlkX w b c e (x.ren r) := by
 rcases h with h | ⟨h1, h2, h3⟩
 ·exact .inl h
 ·refine .inr ⟨h1, by simpa [Own.ren] using h2, fun row hr => ?_⟩
  simp only [Own.ren, List.mem_map] at hr
  obtain ⟨q, hq, rfl⟩ := hr
  exact (h3 q hq).ren
theorem BlkX.unren {r : Nat → Nat} {w : World} {b : Nat} {c : Array Value} {e : TypeId} {x : Own} (h : BlkX w b c e (x.ren r)) : BlkX w b c e x := by
 rcases h with h | ⟨h1, h2, h3⟩
 ·exact .inl h
 ·refine .inr ⟨h1, by simpa [Own.ren] using h2, fun row hr => MapRow.unren (r := r) (h3 (row.map (V.ren r)) ?_)⟩
  simp only [Own.ren, List.mem_map]
  exact ⟨row, hr, rfl⟩
def hpA (h : List Own) : Heap := fun o => h[o]?
section
variable {P : Program} {σ σ' : Heap} {ρ ρ' : Nat → Option Nat} {I I' : Nat → Prop} {w w' : World}
theorem RepV.unren {r : Nat → Nat} : ∀ (v : V) {c : Value}, RepV ρ I w (v.ren r) c → RepV (fun o => ρ (r o)) I w v c
 | .any, c, _ => .any c
 | .d x, c, h => by rw [V.ren] at h; exact .d (h.toD rfl)
 | .agg cs, c, h => by
  rw [V.ren, V.renL_map] at h
  obtain ⟨vs, rfl, h1, h2⟩ := h.toAgg rfl
  refine .agg (by simpa using h1) fun i hi => ?_
  have := h2 i (by simpa using hi)
  rw [List.getElem_map] at this
  exact RepV.unren cs[i] this
 | .tup cs, c, h => by
  rw [V.ren, V.renL_map] at h
  obtain ⟨vs, rfl, h1, h2⟩ := h.toTup rfl
  refine .tup (by simpa using h1) fun i hi => ?_
  have := h2 i (by simpa using hi)
  rw [List.getElem_map] at this
  exact RepV.unren cs[i] this
 | .ptr o k i j, c, h => by rw [V.ren] at h; obtain ⟨b, h1, hB, rfl⟩ := h.toPtr rfl; exact .ptr h1 hB
 | .mp o, c, h => by rw [V.ren] at h; obtain ⟨b, h1, hB, rfl⟩ := h.toMp rfl; exact .mp h1 hB
 | .ifc t v, c, h => by rw [V.ren] at h; obtain ⟨c', rfl, h1⟩ := h.toIfc rfl; exact .ifc (RepV.unren v h1)
 | .iptr cs, c, h => by rw [V.ren] at h; obtain ⟨b, off, h1, rfl⟩ := h.toIptr rfl; exact .iptr h1
 | .msl o k off len, c, h => by rw [V.ren] at h; obtain ⟨b, cap, cs, e, h1, h2, h3, h4, h5, rfl⟩ := h.toMsl rfl; exact .msl h1 h2 h3 h4 h5
 | .fn f cs, c, h => by
  rw [V.ren, V.renL_map] at h
  obtain ⟨vs, rfl, h1, h2⟩ := h.toFn rfl
  refine .fn (by simpa using h1) fun i hi => ?_
  have := h2 i (by simpa using hi)
  rw [List.getElem_map] at this
  exact RepV.unren cs[i] this
termination_by v => SizeOf.sizeOf v
decreasing_by all_goals first | (simp; done) | (simp; omega) | (have := List.sizeOf_lt_of_mem (List.getElem_mem ‹_ < _›); simp; omega)
theorem RepV.ren {r : Nat → Nat} : ∀ (v : V) {c : Value}, RepV (fun o => ρ (r o)) I w v c → RepV ρ I w (v.ren r) c
 | .any, c, _ => by rw [V.ren]; exact .any c
 | .d x, c, h => by rw [V.ren]; exact .d (h.toD rfl)
 | .agg cs, c, h => by
  rw [V.ren, V.renL_map]
  obtain ⟨vs, rfl, h1, h2⟩ := h.toAgg rfl
  refine .agg (by simpa using h1) fun i hi => ?_
  rw [List.getElem_map]
  exact RepV.ren _ (h2 i (by simpa using hi))
 | .tup cs, c, h => by
  rw [V.ren, V.renL_map]
  obtain ⟨vs, rfl, h1, h2⟩ := h.toTup rfl
  refine .tup (by simpa using h1) fun i hi => ?_
  rw [List.getElem_map]
  exact RepV.ren _ (h2 i (by simpa using hi))
 | .ptr o k i j, c, h => by rw [V.ren]; obtain ⟨b, h1, hB, rfl⟩ := h.toPtr rfl; exact .ptr h1 hB
 | .mp o, c, h => by rw [V.ren]; obtain ⟨b, h1, hB, rfl⟩ := h.toMp rfl; exact .mp h1 hB
 | .ifc t v, c, h => by rw [V.ren]; obtain ⟨c', rfl, h1⟩ := h.toIfc rfl; exact .ifc (RepV.ren v h1)
 | .iptr cs, c, h => by rw [V.ren]; obtain ⟨b, off, h1, rfl⟩ := h.toIptr rfl; exact .iptr h1
 | .msl o k off len, c, h => by rw [V.ren]; obtain ⟨b, cap, cs, e, h1, h2, h3, h4, h5, rfl⟩ := h.toMsl rfl; exact .msl h1 h2 h3 h4 h5
 | .fn f cs, c, h => by
  rw [V.ren, V.renL_map]
  obtain ⟨vs, rfl, h1, h2⟩ := h.toFn rfl
  refine .fn (by simpa using h1) fun i hi => ?_
  rw [List.getElem_map]
  exact RepV.ren _ (h2 i (by simpa using hi))
termination_by v => SizeOf.sizeOf v
decreasing_by all_goals first | (simp; done) | (simp; omega) | (have := List.sizeOf_lt_of_mem (List.getElem_mem (by simpa using hi)); simp; omega)
structure Cl [Glb] (P : Program) (f : FuncId) (args : List V) (h : List Own) (v : V) (h' : List Own) : Prop where
 callable : Callable P f
 len : h'.length = h.length
 refsA : V.refsL (· < h.length) args
 refsV : v.refs (· < h.length)
 refsH : ∀ x ∈ h, okRows h.length x.rows
 run : ∀ ρ I w cargs, HeapOk (hpA h) ρ I w → (∀ o, h.length ≤ o → ρ o = none) → RepAll ρ I w args cargs →
  Calls P f cargs w fun e w' => ∃ c I', e = .returned c ∧ Kept (hpA h) ρ I w (hpA h') ρ I' w' ∧ HeapOk (hpA h') ρ I' w' ∧ RepV ρ I' w' v c
theorem CallS.loc [Glb] {f : FuncId} {args : List V} {h h' : List Own} {v : V} (hc : Cl P f args h v h') {r : Nat → Nat} (hin : ∀ j (hj : j < h.length), σ (r j) = some (h[j].ren r)) (hinj : ∀ i j, i < h.length → j < h.length → r i = r j → i = j)
  (hout : ∀ o x, σ' o = some x → (∃ j, ∃ (hj : j < h'.length), o = r j ∧ x = h'[j].ren r) ∨ (σ o = some x ∧ ∀ j, j < h.length → o ≠ r j)) {N id : Nat} : CallS P f (args.map (V.ren r)) σ N id (v.ren r) σ' := by
 refine ⟨hc.callable, fun ρ I w cargs hh _ _ hA => ?_⟩
 let ρl : Nat → Option Nat := fun o => if o < h.length then ρ (r o) else none
 have hρl : ∀ o b, o < h.length → ρ (r o) = some b → ρl o = some b := fun o b h1 h2 => by simp only [ρl, h1, if_true]; exact h2
 have hρr : ∀ o b, ρl o = some b → o < h.length ∧ ρ (r o) = some b := fun o b h1 => by
  simp only [ρl] at h1; split at h1
  ·next h2 => exact ⟨h2, h1⟩
  ·cases h1
 have ownL : ∀ b, Owns (hpA h) ρl b → Owns σ ρ b := by
  rintro b ⟨o, x, h1, h2⟩
  obtain ⟨h3, h4⟩ := hρr o b h2
  exact ⟨r o, _, hin o h3, h4⟩
 have hhl : HeapOk (hpA h) ρl I w := by
  refine ⟨fun o x ho => ?_, fun o o' x x' b h1 h2 h3 h4 => ?_, hh.base⟩
  ·obtain ⟨hj, rfl⟩ := List.getElem?_eq_some_iff.1 ho
   obtain ⟨b, c, e, k1, k2, k3, k4, k5⟩ := hh.own (r o) _ (hin o hj)
   refine ⟨b, c, e, hρl o b hj k1, k2.unren, by simpa [Own.ren] using k3, k4, fun i hi => ?_⟩
   obtain ⟨l1, l2⟩ := k5 i (by simpa [Own.ren] using hi)
   refine ⟨by simpa [Own.ren] using l1, fun j hj' => ?_⟩
   have := l2 j (by simpa [Own.ren] using hj')
   simp only [Own.ren, List.getElem_map] at this
   exact (RepV.unren _ this).reid (hc.refsH _ (List.getElem_mem hj) _ (List.getElem_mem hi) _ (List.getElem_mem hj')) fun o b h1 h2 => hρl o b h1 h2
  ·obtain ⟨l1, l2⟩ := hρr _ _ h3
   obtain ⟨l3, l4⟩ := hρr _ _ h4
   exact hinj o o' l1 l3 (hh.inj _ _ _ _ b (hin o l1) (hin o' l3) l2 l4)
 have hAl : RepAll ρl I w args cargs := ⟨by simpa using hA.size, fun i hi => by
  have := hA.rep i (by simpa using hi)
  rw [List.getElem_map] at this
  exact (RepV.unren _ this).reid (V.refsL_get hc.refsA i hi) fun o b h1 h2 => hρl o b h1 h2⟩
 refine Calls.mono (hc.run ρl I w cargs hhl (fun o ho => if_neg (by omega)) hAl) ?_
 rintro e w' ⟨c, I', rfl, hk, hh', hv⟩
 have src : ∀ o x, σ' o = some x → ∃ y, σ o = some y := fun o x ho => by
  rcases hout o x ho with ⟨j, hj, rfl, _⟩ | ⟨h1, _⟩
  ·exact ⟨_, hin j (by rw [← hc.len]; exact hj)⟩
  ·exact ⟨x, h1⟩
 have keptB : ∀ b, b < w.heap.size → ¬ Owns (hpA h) ρl b → w'.heap[b]? = w.heap[b]? := hk.kept
 have own' : ∀ b, Owns σ' ρ b → Owns σ ρ b := fun b ⟨o, x, h1, h2⟩ => let ⟨y, h3⟩ := src o x h1; ⟨o, y, h3, h2⟩
 have hK : Kept σ ρ I w σ' ρ I' w' := ⟨hk.os, hk.tape, hk.output, hk.size, fun b hb hn => keptB b hb fun ho => hn (ownL b ho), hk.sz, fun b hb => .inl (own' b hb), hk.imm, fun b hb => (hk.immNew b hb).imp (fun h => h) (Or.imp (ownL b) (fun h => h))⟩
 have hren : ∀ {v : V} {c : Value}, RepV ρl I' w' v c → RepV ρ I' w' (v.ren r) c := fun {v c} hv =>
  RepV.ren v (hv.mono (ρ' := fun o => ρ (r o)) (fun o b h1 => (hρr o b h1).2) (fun _ h => h) (fun _ _ => rfl) (fun _ => .of_eq rfl))
 refine ⟨c, ρ, I', rfl, ⟨hK, fun _ _ h => h⟩, ⟨fun o x ho => ?_, fun o o' x x' b h1 h2 h3 h4 => ?_, hh'.base⟩, fun _ _ => rfl, hren hv⟩
 ·rcases hout o x ho with ⟨j, hj, rfl, rfl⟩ | ⟨h1, h2⟩
  ·obtain ⟨b, c, e, k1, k2, k3, k4, k5⟩ := hh'.own j h'[j] (by simp [hpA, hj])
   refine ⟨b, c, e, (hρr _ _ k1).2, k2.ren, by simpa [Own.ren] using k3, k4, fun i hi => ?_⟩
   have hi' : i < h'[j].rows.length := by simpa [Own.ren] using hi
   obtain ⟨l1, l2⟩ := k5 i hi'
   refine ⟨by simpa [Own.ren] using l1, fun m hm => ?_⟩
   simp only [Own.ren, List.getElem_map]
   exact hren (l2 m (by simpa [Own.ren] using hm))
  ·obtain ⟨b, c, e, k1, k2, k3, k4, k5⟩ := hh.own o x h1
   have hb : b < w.heap.size := k2.lt
   have hno : ¬ Owns (hpA h) ρl b := by
    rintro ⟨j, y, m1, m2⟩
    obtain ⟨m3, m4⟩ := hρr _ _ m2
    exact h2 j m3 (hh.inj _ _ _ _ b h1 (hin j m3) k1 m4)
   refine ⟨b, c, e, k1, k2.of_eq (keptB b hb hno), k3, fun hb' => ?_, fun i hi => ⟨(k5 i hi).1, fun m hm => ?_⟩⟩
   ·rcases hk.immNew b hb' with m | m | m
    ·exact k4 m
    ·exact hno m
    ·omega
   ·exact ((k5 i hi).2 m hm).mono (fun _ _ h => h) hk.imm (fun b hb => keptB b (hh.lt b hb) (hhl.notOwned hb)) hk.sz
 ·obtain ⟨y, l1⟩ := src o x h1
  obtain ⟨y', l2⟩ := src o' x' h2
  exact hh.inj _ _ _ _ b l1 l2 h3 h4
def priv (m : Nat) (σ : Heap) : Heap := fun o => if o < m then none else σ o
def SealRows (σ : Heap) : List (List V) → List (List V) → Prop
 | [], [] => True
 | r :: l, r' :: l' => SealAll σ r r' ∧ SealRows σ l l'
 | _, _ => False
theorem SealRows.refl {σ : Heap} : ∀ l : List (List V), SealRows σ l l
 | [] => trivial
 | r :: l => ⟨SealAll.refl r, SealRows.refl l⟩
theorem SealRows.get {σ : Heap} : ∀ {l l' : List (List V)}, SealRows σ l l' → l.length = l'.length ∧ ∀ i (hi : i < l.length) (hj : i < l'.length), SealAll σ l[i] l'[i]
 | [], [], _ => ⟨rfl, fun i hi => absurd hi (Nat.not_lt_zero i)⟩
 | r :: l, r' :: l', h => by
  unfold SealRows at h
  obtain ⟨h1, h2⟩ := SealRows.get h.2
  refine ⟨by simp [h1], fun i hi hj => ?_⟩
  cases i with
  | zero => exact h.1
  | succ i => exact h2 i (by simpa using hi) (by simpa using hj)
 | [], _ :: _, h => h.elim
 | _ :: _, [], h => h.elim
theorem SealV.key {v z : V} (h : SealV σ v z) (hv : v = .any ∨ ∃ s : MKey, v = .d (.val s.v)) : z = .any ∨ ∃ s : MKey, z = .d (.val s.v) := by
 rcases hv with rfl | ⟨s, rfl⟩
 ·cases h with
  | any => exact .inl rfl
  | same => exact .inl rfl
  | d h => cases h
 ·cases h with
  | any => exact .inl rfl
  | same => exact .inr ⟨s, rfl⟩
  | d h => cases s <;> cases h with
   | d => first | exact .inr ⟨.str _, rfl⟩ | exact .inr ⟨.int _ _, rfl⟩
   | dn h => cases h; first | exact .inr ⟨.str _, rfl⟩ | exact .inr ⟨.int _ _, rfl⟩
theorem SealV.elm {v z : V} (h : SealV σ v z) (hv : v = .any ∨ ∃ y, v = .d y) : z = .any ∨ ∃ y, z = .d y := by
 rcases hv with rfl | ⟨s, rfl⟩
 ·cases h with
  | any => exact .inl rfl
  | same => exact .inl rfl
  | d h => cases h
 ·cases h with
  | any => exact .inl rfl
  | same => exact .inr ⟨s, rfl⟩
  | d h => exact .inr ⟨_, rfl⟩
theorem MapRow.slr {row row' : List V} (h : MapRow row) (hs : SealAll σ row row') : MapRow row' := by
 obtain ⟨k, v, rfl, hk, hv⟩ := h
 match row', hs with
 | [a, b], hs => exact ⟨a, b, rfl, hs.1.key hk, hs.2.1.elm hv⟩
theorem BlkX.slr {w : World} {b : Nat} {c : Array Value} {e : TypeId} {x x' : Own} (h : BlkX w b c e x) (hk : x'.k = x.k) (hr : SealRows σ x.rows x'.rows) : BlkX w b c e x' := by
 obtain ⟨hl, hg⟩ := hr.get
 rcases h with h | ⟨h1, ⟨es, cl, h2, h3, h4⟩, h5⟩
 ·exact .inl h
 ·refine .inr ⟨hk.trans h1, ⟨es, cl, h2, h3, h4.trans hl⟩, fun row hm => ?_⟩
  obtain ⟨i, hi, rfl⟩ := List.getElem_of_mem hm
  exact (h5 _ (List.getElem_mem (by omega : i < x.rows.length))).slr (hg i (by omega) hi)
def endH (m : Nat) (σ : Heap) : Nat → List Own → Prop
 | _, [] => True
 | i, x :: r => optK (σ i) (Later (Hold fun y => y.k = x.k ∧ SealRows (priv m σ) y.rows x.rows)) ∧ endH m σ (i + 1) r
theorem endH_get {m : Nat} : ∀ {h : List Own} {i : Nat}, endH m σ i h → ∀ j (hj : j < h.length), ∃ y, σ (i + j) = some y ∧ y.k = h[j].k ∧ SealRows (priv m σ) y.rows h[j].rows
 | [], _, _, j, hj => absurd hj (Nat.not_lt_zero j)
 | x :: r, i, h, 0, _ => by unfold endH at h; obtain ⟨y, h1, h2⟩ := optK_some h.1; rw [Later_apply] at h2; exact ⟨y, h1, h2⟩
 | x :: r, i, h, j + 1, hj => by
  unfold endH at h
  obtain ⟨y, h1, h2⟩ := endH_get h.2 j (by simpa using hj)
  exact ⟨y, by rw [show i + (j + 1) = i + 1 + j by omega]; exact h1, h2⟩
theorem Cl.of [Glb] {f : FuncId} {fn : Func} {c : Code} {args : List V} {h h' : List Own} {v : V} {N : Nat} {rs : Array ResultVar} (hm : P.follows .mixedOrders = true) (hf : P.funcs[f]? = some fn) (hb : fn.body = some c) (hc : Callable P f) (hN : fn.ntmps = N) (hr : fn.results = rs) (hn : args.length ≤ N)
  (hok : okB N c = true) (hl : h'.length = h.length) (hrA : V.refsL (· < h.length) args) (hrV : v.refs (· < h.length)) (hrH : ∀ x ∈ h, okRows h.length x.rows) (hrH' : ∀ x ∈ h', okRows h.length x.rows)
  (hvc : fitA args → vc P N h.length c (retQ P rs.toList (Later (Hold fun st u => SealV (priv h.length st.σ) u v ∧ endH h.length st.σ 0 h'))) ⟨argF args, hpA h, h.length⟩) : Cl P f args h v h' := by
 subst hN hr
 refine ⟨hc, hl, hrA, hrV, hrH, fun ρ I w cargs hh hfr hA => calls_of_wp hf hb ?_⟩
 have hcon : Conc fn.ntmps h.length ⟨argF args, hpA h, h.length⟩ ρ I ⟨cargs ++ Array.replicate (fn.ntmps - cargs.size) undef, []⟩ w :=
  ⟨hh, hfr, fun t => entry_frame hA t, rfl, by simp [hA.size]; omega, Nat.le_refl _⟩
 refine wp_mono (vc_sound hm c _ _ hok (hvc (fitA_of args _ hA.rep)) _ I _ w hcon) ?_
 rintro e a' w' ⟨st', ρ', I', h1, h2, h3⟩
 have fin : resK P st' fn.results.toList (fun u => SealV (priv h.length st'.σ) u v ∧ endH h.length st'.σ 0 h') → a'.defers = [] ∧ ∃ c, (results fn a'.tmps).run P w' = .ok c w' ∧ ∃ c' I'', Ending.returned c = .returned c' ∧ Kept (hpA h) ρ I w (hpA h') ρ I'' w' ∧ HeapOk (hpA h') ρ I'' w' ∧ RepV ρ I'' w' v c' := by
  intro hk
  obtain ⟨u, c, ⟨k1, kE⟩, k2, k3⟩ := resK_sound h2 hk
  have hpr : HeapOk (priv h.length st'.σ) ρ' I' w' := h2.heap.forget fun o x ho => by
   unfold priv at ho; split at ho
   ·cases ho
   ·exact ho
  have pge : ∀ o x, priv h.length st'.σ o = some x → h.length ≤ o ∧ st'.σ o = some x := fun o x ho => by
   unfold priv at ho; split at ho
   ·cases ho
   ·exact ⟨by omega, ho⟩
  have low : ∀ o b, o < h.length → ρ' o = some b → ρ o = some b := fun o b ho hb => by rw [← h3.low o ho]; exact hb
  have stay : ∀ j (hj : j < h'.length), ∃ y, st'.σ j = some y ∧ y.k = h'[j].k ∧ SealRows (priv h.length st'.σ) y.rows h'[j].rows := fun j hj => by
   have := endH_get kE j hj; simpa using this
  refine ⟨h2.defers, c, k3, c, fun b => I' b ∨ Owns (priv h.length st'.σ) ρ' b, rfl, ⟨h3.os, h3.tape, h3.output, h3.size, h3.kept, h3.sz, fun b hb => ?_, fun b hb => .inl (h3.imm b hb), fun b hb => ?_⟩, ⟨fun o x ho => ?_, fun o o' x x' b l1 l2 l3 l4 => ?_, h2.heap.base.up (fun _ h => .inl h) fun b hb => ?_⟩, ?_⟩
  ·obtain ⟨o, x, l1, l2⟩ := hb
   obtain ⟨hj, rfl⟩ := List.getElem?_eq_some_iff.1 l1
   obtain ⟨y, m1, _⟩ := stay o hj
   exact h3.owned b ⟨o, y, m1, by rw [h3.low o (by omega)]; exact l2⟩
  ·rcases hb with hb | ⟨o, x, l1, l2⟩
   ·exact h3.immNew b hb
   ·exact (h3.owned b ⟨o, x, (pge o x l1).2, l2⟩).elim (fun h => .inr (.inl h)) (fun h => .inr (.inr h))
  ·obtain ⟨hj, rfl⟩ := List.getElem?_eq_some_iff.1 ho
   obtain ⟨y, m1, m2, m3⟩ := stay o hj
   obtain ⟨b, c, e, n1, n2, n3, n4, n5⟩ := h2.heap.own o y m1
   have hlen := m3.get.1
   refine ⟨b, c, e, low o b (by omega) n1, n2.slr m2.symm m3, by rw [← hlen, ← m2]; exact n3, ?_, fun i hi => ?_⟩
   ·rintro (hb | ⟨o', x', l1, l2⟩)
    ·exact n4 hb
    ·obtain ⟨p1, p2⟩ := pge o' x' l1
     have := h2.heap.inj o o' _ _ b m1 p2 n1 l2
     omega
   ·have hs := m3.get.2 i (by omega) hi
    obtain ⟨q1, q2⟩ := n5 i (by omega)
    refine ⟨by rw [← hs.get.1, ← m2]; exact q1, fun j hj' => ?_⟩
    have := (hs.get.2 j (by rw [hs.get.1]; exact hj') hj').rep hpr (q2 j (by rw [hs.get.1]; exact hj'))
    rw [← m2]
    exact this.reid (hrH' _ (List.getElem_mem hj) _ (List.getElem_mem hi) _ (List.getElem_mem hj')) fun o b h1 h2 => low o b h1 h2
  ·obtain ⟨hj, rfl⟩ := List.getElem?_eq_some_iff.1 l1
   obtain ⟨hj', rfl⟩ := List.getElem?_eq_some_iff.1 l2
   obtain ⟨y, m1, _⟩ := stay o hj
   obtain ⟨y', m2, _⟩ := stay o' hj'
   exact h2.heap.inj o o' _ _ b m1 m2 (by rw [h3.low o (by omega)]; exact l3) (by rw [h3.low o' (by omega)]; exact l4)
  ·rcases hb with hb | hb
   ·exact h2.heap.lt b hb
   ·exact hpr.owns_lt hb
  ·exact (k1.rep hpr k2).reid hrV fun o b h1 h2 => low o b h1 h2
 cases e with
 | normal => obtain ⟨k1, c, k2, k3⟩ := fin (by simpa [retQ, Later_apply] using h1); exact ⟨k1, c, k2, k3⟩
 | ret => obtain ⟨k1, c, k2, k3⟩ := fin (by simpa [retQ, Later_apply] using h1); exact ⟨k1, c, k2, k3⟩
 | _ => exact h1.elim
/-! ### As the walk uses it -/
def renV (rl : List Nat) (v : V) : V := v.ren fun j => rl.getD j 0
def renRow (rl : List Nat) : List V → List V
 | [] => []
 | v :: l => renV rl v :: renRow rl l
def renRows (rl : List Nat) : List (List V) → List (List V)
 | [] => []
 | v :: l => renRow rl v :: renRows rl l
theorem renRow_map {rl : List Nat} : ∀ l : List V, renRow rl l = l.map (renV rl)
 | [] => rfl
 | v :: l => by rw [renRow, renRow_map l]; rfl
theorem renRows_map {rl : List Nat} : ∀ l : List (List V), renRows rl l = l.map (·.map (renV rl))
 | [] => rfl
 | v :: l => by rw [renRows, renRows_map l, renRow_map]; rfl
theorem own_rows {rl : List Nat} {x : Own} : (⟨x.k, renRows rl x.rows⟩ : Own) = x.ren fun j => rl.getD j 0 := by
 unfold Own.ren; rw [renRows_map]; rfl
theorem BlkX.rows {rl : List Nat} {w : World} {b : Nat} {c : Array Value} {e : TypeId} {x : Own} (h : BlkX w b c e x) : BlkX w b c e ⟨x.k, renRows rl x.rows⟩ := own_rows ▸ h.ren
theorem BlkX.unrows {rl : List Nat} {w : World} {b : Nat} {c : Array Value} {e : TypeId} {x : Own} (h : BlkX w b c e ⟨x.k, renRows rl x.rows⟩) : BlkX w b c e x := by
 rw [own_rows] at h; exact h.unren
theorem renRow_nil {rl : List Nat} : renRow rl [] = [] := nrfl rfl
theorem renRow_cons {rl : List Nat} {v : V} {l : List V} : renRow rl (v :: l) = renV rl v :: renRow rl l := nrfl rfl
theorem renRows_nil {rl : List Nat} : renRows rl [] = [] := nrfl rfl
theorem renRows_cons {rl : List Nat} {v : List V} {l : List (List V)} : renRows rl (v :: l) = renRow rl v :: renRows rl l := nrfl rfl
theorem renV_any {rl : List Nat} : renV rl .any = .any := by simp [renV, V.ren]
theorem renV_d {rl : List Nat} {x : D} : renV rl (.d x) = .d x := by simp [renV, V.ren]
theorem renV_iptr {rl : List Nat} {x : List D} : renV rl (.iptr x) = .iptr x := by simp [renV, V.ren]
theorem renV_ptr {rl : List Nat} {o k i j : Nat} : renV rl (.ptr o k i j) = .ptr (rl.getD o 0) k i j := by simp [renV, V.ren]
theorem renV_mp {rl : List Nat} {o : Nat} : renV rl (.mp o) = .mp (rl.getD o 0) := by simp [renV, V.ren]
theorem renV_ifc {rl : List Nat} {t : TypeId} {v : V} : renV rl (.ifc t v) = .ifc t (renV rl v) := by simp [renV, V.ren]
theorem renV_msl {rl : List Nat} {o k i j : Nat} : renV rl (.msl o k i j) = .msl (rl.getD o 0) k i j := by simp [renV, V.ren]
theorem renV_agg {rl : List Nat} {l : List V} : renV rl (.agg l) = .agg (renRow rl l) := by rw [renV, V.ren, V.renL_map, renRow_map]; rfl
theorem renV_tup {rl : List Nat} {l : List V} : renV rl (.tup l) = .tup (renRow rl l) := by rw [renV, V.ren, V.renL_map, renRow_map]; rfl
theorem renV_fn {rl : List Nat} {f : FuncId} {l : List V} : renV rl (.fn f l) = .fn f (renRow rl l) := by rw [renV, V.ren, V.renL_map, renRow_map]; rfl
theorem renRow_data {rl : List Nat} {l : List D} : renRow rl (l.map .d) = l.map .d := by
 rw [renRow_map, List.map_map]; exact List.map_congr_left fun x _ => renV_d
def inH (rl0 : List Nat) (σ : Heap) : List Nat → List Own → Prop
 | [], [] => True
 | o :: rl, x :: h => σ o = some ⟨x.k, renRows rl0 x.rows⟩ ∧ inH rl0 σ rl h
 | _, _ => False
def updH (rl0 : List Nat) (σ : Heap) : List Nat → List Own → Heap
 | o :: rl, x :: h => updH rl0 (upd σ o (some ⟨x.k, renRows rl0 x.rows⟩)) rl h
 | _, _ => σ
theorem inH_nil {rl0 : List Nat} : inH rl0 σ [] [] = True := nrfl rfl
theorem inH_cons {rl0 rl : List Nat} {o : Nat} {x : Own} {h : List Own} : inH rl0 σ (o :: rl) (x :: h) = (σ o = some ⟨x.k, renRows rl0 x.rows⟩ ∧ inH rl0 σ rl h) := nrfl rfl
theorem updH_nil {rl0 : List Nat} : updH rl0 σ [] [] = σ := nrfl rfl
theorem updH_cons {rl0 rl : List Nat} {o : Nat} {x : Own} {h : List Own} : updH rl0 σ (o :: rl) (x :: h) = updH rl0 (upd σ o (some ⟨x.k, renRows rl0 x.rows⟩)) rl h := nrfl rfl
theorem inH_get {rl0 : List Nat} : ∀ {rl : List Nat} {h : List Own}, inH rl0 σ rl h → rl.length = h.length ∧ ∀ j (hj : j < h.length), σ (rl.getD j 0) = some ⟨h[j].k, renRows rl0 h[j].rows⟩
 | [], [], _ => ⟨rfl, fun i hi => absurd hi (Nat.not_lt_zero i)⟩
 | o :: rl, x :: h, hh => by
  unfold inH at hh
  obtain ⟨h1, h2⟩ := inH_get hh.2
  refine ⟨by simp [h1], fun j hj => ?_⟩
  cases j with
  | zero => exact hh.1
  | succ j => exact h2 j (by simpa using hj)
 | [], _ :: _, h => h.elim
 | _ :: _, [], h => h.elim
theorem updH_get {rl0 : List Nat} : ∀ {rl : List Nat} {h : List Own} {σ : Heap}, rl.length = h.length → rl.Nodup → ∀ o x, updH rl0 σ rl h o = some x → (∃ j, ∃ (hj : j < h.length), o = rl.getD j 0 ∧ x = ⟨h[j].k, renRows rl0 h[j].rows⟩) ∨ (σ o = some x ∧ ∀ j, j < h.length → o ≠ rl.getD j 0)
 | [], [], σ, _, _, o, x, h => .inr ⟨h, fun j hj => absurd hj (Nat.not_lt_zero j)⟩
 | a :: rl, y :: h, σ, hl, hn, o, x, hh => by
  unfold updH at hh
  obtain ⟨hn1, hn2⟩ := List.nodup_cons.1 hn
  have hl' : rl.length = h.length := by simpa using hl
  rcases updH_get hl' hn2 o x hh with ⟨j, hj, h1, h2⟩ | ⟨h1, h2⟩
  ·exact .inl ⟨j + 1, by simpa using hj, by simpa using h1, by simpa using h2⟩
  ·by_cases ho : o = a
   ·subst ho; rw [upd_same] at h1; cases h1; exact .inl ⟨0, by simp, rfl, rfl⟩
   ·rw [upd_ne _ _ ho] at h1
    refine .inr ⟨h1, fun j hj => ?_⟩
    cases j with
    | zero => simpa using ho
    | succ j => have := h2 j (by simpa using hj); simpa using this
 | [], _ :: _, _, hl, _, _, _, _ => by simp at hl
 | _ :: _, [], _, hl, _, _, _, _ => by simp at hl
theorem callK_loc [Glb] {N id : Nat} {g : FuncId} {caps args al : List V} {h h' : List Own} {v : V} {L : V → Heap → Prop} (rl : List Nat) (hc : Cl P g al h v h') (ha : args ++ caps = renRow rl al) (hn : rl.Nodup) (hin : inH rl σ rl h) (k : L (renV rl v) (updH rl σ rl h')) : callK P (.fn g caps) args σ N id L := by
 obtain ⟨h1, h2⟩ := inH_get hin
 refine ⟨renV rl v, updH rl σ rl h', .inr ?_, k⟩
 rw [ha, renRow_map]
 refine CallS.loc hc (r := fun j => rl.getD j 0) (fun j hj => ?_) (fun i j hi hj e => ?_) fun o x ho => ?_
 ·rw [h2 j hj, renRows_map]; rfl
 ·have hi' : i < rl.length := by omega
  have hj' : j < rl.length := by omega
  simp only [List.getD_eq_getElem?_getD, List.getElem?_eq_getElem hi', List.getElem?_eq_getElem hj', Option.getD_some] at e
  exact (List.getElem_inj hn).1 e
 ·rcases updH_get (h1.trans hc.len.symm) hn o x ho with ⟨j, hj, k1, k2⟩ | ⟨k1, k2⟩
  ·exact .inl ⟨j, hj, k1, by rw [k2, renRows_map]; rfl⟩
  ·exact .inr ⟨k1, fun j hj => k2 j (by rw [hc.len]; exact hj)⟩
theorem strAt_nat {s : ByteArray} {k : Nat} : strAt s (k : Int) = s[k]? := by simp [strAt]
theorem bop_shr1 {P : Program} {t : TypeId} {a : Int} : bop P t .shr (.int .u64 a) (.int .u64 1) = some (.int .u64 (a.fdiv 2)) := by simp [bop, IntKind.bits]
theorem hpA_at {h : List Own} {o : Nat} : hpA h o = h[o]? := nrfl rfl
theorem endH_nil {m i : Nat} : endH m σ i [] = True := nrfl rfl
theorem endH_cons {m i : Nat} {x : Own} {r : List Own} : endH m σ i (x :: r) = (optK (σ i) (Later (Hold fun y => y.k = x.k ∧ SealRows (priv m σ) y.rows x.rows)) ∧ endH m σ (i + 1) r) := nrfl rfl
end
end Go.Iso
namespace Go.Iso
open Go Go.RowKit
set_option linter.unusedSimpArgs false
set_option linter.unusedVariables false
def hpO (h : List (Option Own)) : Heap := fun o => (h[o]?).join
def mkR (l : List (Nat × V)) (h : List (Option Own)) : St := ⟨frL l, hpO h, h.length⟩
def okR (rl : List Nat) (m : Nat) (fr : Nat → V) : List (Nat × V) → Prop
 | [] => True
 | (s, v) :: l => fr s = renV rl v ∧ v.refs (· < m) ∧ okR rl m fr l
def inO (rl : List Nat) (m : Nat) (σ : Heap) (o : Nat) (x : Option Own) : Prop := ∀ y, x = some y → σ o = some ⟨y.k, renRows rl y.rows⟩ ∧ okRows m y.rows
def inR (rl0 : List Nat) (m : Nat) (σ : Heap) : List Nat → List (Option Own) → Prop
 | [], [] => True
 | o :: rl, x :: h => inO rl0 m σ o x ∧ inR rl0 m σ rl h
 | _, _ => False
def rangeB (rl : List Nat) : Nat → Prop
 | 0 => True
 | B + 1 => rl.getD B 0 = B ∧ rangeB rl B
theorem rangeB_get {rl : List Nat} : ∀ {B : Nat}, rangeB rl B → ∀ j, j < B → rl.getD j 0 = j
 | B + 1, h, j, hj => by
  unfold rangeB at h
  rcases Nat.lt_succ_iff_lt_or_eq.1 hj with hj | rfl
  ·exact rangeB_get h.2 j hj
  ·exact h.1
structure RoundC (B : Nat) (rl : List Nat) (s : St) (l : List (Nat × V)) (h : List (Option Own)) : Prop where
 nodup : rl.Nodup
 range : rangeB rl B
 base : B ≤ h.length
 fr : okR rl h.length s.fr l
 hp : inR rl h.length s.σ rl h
section
variable {P : Program} {N B : Nat} {Q : Exit → St → Prop} {st : St} {α : Type} {σ : Heap} {ρ : Nat → Option Nat} {I : Nat → Prop} {w : World} {a : Act}
theorem inR_get {rl0 : List Nat} {m : Nat} : ∀ {rl : List Nat} {h : List (Option Own)}, inR rl0 m σ rl h → rl.length = h.length ∧ ∀ j y, (h[j]?).join = some y → σ (rl.getD j 0) = some ⟨y.k, renRows rl0 y.rows⟩ ∧ okRows m y.rows
 | [], [], _ => ⟨rfl, fun j y h => by simp at h⟩
 | o :: rl, x :: h, hh => by
  unfold inR at hh
  obtain ⟨h1, h2⟩ := inR_get hh.2
  refine ⟨by simp [h1], fun j y hj => ?_⟩
  cases j with
  | zero => exact hh.1 y (by simpa using hj)
  | succ j => simpa using h2 j y (by simpa using hj)
 | [], _ :: _, h => h.elim
 | _ :: _, [], h => h.elim
theorem okR_get {rl : List Nat} {m : Nat} {fr : Nat → V} : ∀ {l : List (Nat × V)}, okR rl m fr l → ∀ t, frL l t = .any ∨ (fr t = renV rl (frL l t) ∧ (frL l t).refs (· < m))
 | [], _, t => .inl rfl
 | (s, v) :: l, h, t => by
  unfold okR at h
  rw [frL_cons]
  split
  ·next e => subst e; exact .inr ⟨h.1, h.2.1⟩
  ·exact okR_get h.2.2 t
theorem Conc.round [Glb] {rl : List Nat} {l : List (Nat × V)} {h : List (Option Own)} (hc : Conc N B st ρ I a w) (hr : RoundC B rl st l h) :
  Conc N B (mkR l h) (fun o => if o < h.length then ρ (rl.getD o 0) else none) I a w ∧ (∀ b, Owns (mkR l h).σ (fun o => if o < h.length then ρ (rl.getD o 0) else none) b → Owns st.σ ρ b) := by
 obtain ⟨hlen, hget⟩ := inR_get hr.hp
 have key : ∀ {v : V} {c : Value}, v.refs (· < h.length) → RepV ρ I w (renV rl v) c → RepV (fun o => if o < h.length then ρ (rl.getD o 0) else none) I w v c := fun hv hx =>
  (RepV.unren _ hx).reid hv fun o b h1 h2 => by simp only [h1, if_true]; exact h2
 have hlt : ∀ o x, (mkR l h).σ o = some x → o < h.length := fun o x ho => by
  rcases Nat.lt_or_ge o h.length with h' | h'
  ·exact h'
  ·simp [mkR, hpO, List.getElem?_eq_none h'] at ho
 refine ⟨⟨⟨fun o x ho => ?_, fun o o' x x' b h1 h2 h3 h4 => ?_, hc.heap.base⟩, fun o ho => if_neg (by simpa [mkR] using ho), fun t => ?_, hc.defers, hc.size, hr.base⟩, ?_⟩
 ·have hol := hlt o x ho
  obtain ⟨k1, k2⟩ := hget o x ho
  obtain ⟨b, c, e, m1, m2, m3, m4, m5⟩ := hc.heap.own _ _ k1
  have hrl : (renRows rl x.rows).length = x.rows.length := by rw [renRows_map]; simp
  refine ⟨b, c, e, by simp only [hol, if_true]; exact m1, m2.unrows, by simpa [hrl] using m3, m4, fun i hi => ?_⟩
  obtain ⟨n1, n2⟩ := m5 i (by simpa [hrl] using hi)
  simp only [renRows_map, List.getElem_map, List.length_map] at n1 n2
  refine ⟨n1, fun j hj => ?_⟩
  exact key (k2 _ (List.getElem_mem hi) _ (List.getElem_mem hj)) (n2 j hj)
 ·obtain ⟨k1, _⟩ := hget o x h1
  obtain ⟨k2, _⟩ := hget o' x' h2
  have l1 := hlt o x h1
  have l2 := hlt o' x' h2
  simp only [l1, l2, if_true] at h3 h4
  have := hc.heap.inj _ _ _ _ b k1 k2 h3 h4
  have hi : o < rl.length := by omega
  have hi' : o' < rl.length := by omega
  simp only [List.getD_eq_getElem?_getD, List.getElem?_eq_getElem hi, List.getElem?_eq_getElem hi', Option.getD_some] at this
  exact (List.getElem_inj hr.nodup).1 this
 ·rcases okR_get hr.fr t with h1 | ⟨h1, h2⟩
  ·show RepV _ I w (frL l t) _; rw [h1]; exact .any _
  ·exact key h2 (h1 ▸ hc.frame t)
 ·rintro b ⟨o, x, h1, h2⟩
  have l1 := hlt o x h1
  simp only [l1, if_true] at h2
  exact ⟨_, _, (hget o x h1).1, h2⟩
theorem Frame.round {rl : List Nat} {l : List (Nat × V)} {h : List (Option Own)} (hr : RoundC B rl st l h) (hB : ∀ b, Owns (mkR l h).σ (fun o => if o < h.length then ρ (rl.getD o 0) else none) b → Owns st.σ ρ b) :
  Frame B st.σ ρ I w (mkR l h).σ (fun o => if o < h.length then ρ (rl.getD o 0) else none) I w := by
 have hk : Kept st.σ ρ I w st.σ ρ I w := Kept.refl _ _ _ _
 exact ⟨hk.owns hB, fun o ho => by rw [rangeB_get hr.range o ho, if_pos (by have := hr.base; omega)]⟩
theorem AW.round [Glb] {c : Code} {rl : List Nat} {l : List (Nat × V)} {h : List (Option Own)} (hr : RoundC B rl st l h) (k : AW P N B c Q (mkR l h)) : AW P N B c Q st := by
 intro ρ I a w hc
 obtain ⟨h1, h2⟩ := hc.round hr
 refine wp_mono (k _ I a w h1) ?_
 rintro e a' w' ⟨st2, ρ', I', k1, k2, k3⟩
 have hown : ∀ b, ¬ Owns st.σ ρ b → ¬ Owns (mkR l h).σ (fun o => if o < h.length then ρ (rl.getD o 0) else none) b := fun b hn ho => hn (h2 b ho)
 refine ⟨st2, ρ', I', k1, k2, ⟨⟨k3.os, k3.tape, k3.output, k3.size, fun b hb hn => k3.kept b hb (hown b hn), k3.sz, fun b hb => (k3.owned b hb).imp (h2 b) (fun h => h), k3.imm, fun b hb => ?_⟩, fun o ho => ?_⟩⟩
 ·rcases k3.immNew b hb with h | h | h
  ·exact .inl h
  ·exact .inr (.inl (h2 b h))
  ·exact .inr (.inr h)
 ·rw [k3.low o ho, rangeB_get hr.range o ho, if_pos (by have := hr.base; omega)]
def RoundQ (B : Nat) (l : α → List (Nat × V)) (h : α → List (Option Own)) (Inv : α → Prop) (μ : α → Nat) (x : α) (s : St) : Prop :=
 ∃ y rl, Inv y ∧ μ y < μ x ∧ RoundC B rl s (l y) (h y)
theorem RoundQ.mk {l : α → List (Nat × V)} {h : α → List (Option Own)} {Inv : α → Prop} {μ : α → Nat} {x : α} {s : St} (y : α) (rl : List Nat) (hi : Inv y) (hμ : μ y < μ x) (hr : RoundC B rl s (l y) (h y)) : RoundQ B l h Inv μ x s := ⟨y, rl, hi, hμ, hr⟩
def LoopV [Glb] (P : Program) (N B : Nat) (c : Code) (Q : Exit → St → Prop) : Nat → St → Prop
 | 0, st => vc P N B c (thenQ (Later (Hold fun _ => False)) Q) st
 | n + 1, st => vc P N B c (thenQ (Later (Hold fun s => LoopV P N B c Q n s)) Q) st
theorem loopV_zero [Glb] {c : Code} : LoopV P N B c Q 0 st = vc P N B c (thenQ (Later (Hold fun _ => False)) Q) st := nrfl rfl
theorem loopV_one [Glb] {c : Code} : LoopV P N B c Q 1 st = vc P N B c (thenQ (Later (Hold fun s => LoopV P N B c Q 0 s)) Q) st := nrfl rfl
theorem loopV_two [Glb] {c : Code} : LoopV P N B c Q 2 st = vc P N B c (thenQ (Later (Hold fun s => LoopV P N B c Q 1 s)) Q) st := nrfl rfl
theorem loopV_three [Glb] {c : Code} : LoopV P N B c Q 3 st = vc P N B c (thenQ (Later (Hold fun s => LoopV P N B c Q 2 s)) Q) st := nrfl rfl
theorem mkR_eq {l : List (Nat × V)} {h : List (Option Own)} : mkR l h = ⟨frL l, hpO h, h.length⟩ := nrfl rfl
theorem hpO_at {h : List (Option Own)} {o : Nat} : hpO h o = (h[o]?).join := nrfl rfl
theorem join_some {α : Type} {x : Option α} : (some x).join = x := nrfl rfl
theorem okR_nil {rl : List Nat} {m : Nat} {fr : Nat → V} : okR rl m fr [] = True := nrfl rfl
theorem okR_cons {rl : List Nat} {m s : Nat} {fr : Nat → V} {v : V} {l : List (Nat × V)} : okR rl m fr ((s, v) :: l) = (fr s = renV rl v ∧ v.refs (· < m) ∧ okR rl m fr l) := nrfl rfl
theorem inR_nil {rl : List Nat} {m : Nat} : inR rl m σ [] [] = True := nrfl rfl
theorem inR_cons {rl0 rl : List Nat} {m o : Nat} {x : Option Own} {h : List (Option Own)} : inR rl0 m σ (o :: rl) (x :: h) = (inO rl0 m σ o x ∧ inR rl0 m σ rl h) := nrfl rfl
theorem inO_none {rl : List Nat} {m o : Nat} : inO rl m σ o none = True := by simp [inO]
theorem inO_some {rl : List Nat} {m o : Nat} {x : Own} : inO rl m σ o (some x) = (σ o = some ⟨x.k, renRows rl x.rows⟩ ∧ okRows m x.rows) := by simp [inO]
theorem rangeB_zero {rl : List Nat} : rangeB rl 0 = True := nrfl rfl
theorem rangeB_succ {rl : List Nat} {B : Nat} : rangeB rl (B + 1) = (rl.getD B 0 = B ∧ rangeB rl B) := nrfl rfl
theorem roundC_eq {rl : List Nat} {s : St} {l : List (Nat × V)} {h : List (Option Own)} : RoundC B rl s l h = (rl.Nodup ∧ rangeB rl B ∧ B ≤ h.length ∧ okR rl h.length s.fr l ∧ inR rl h.length s.σ rl h) :=
 propext ⟨fun h => ⟨h.1, h.2, h.3, h.4, h.5⟩, fun h => ⟨h.1, h.2.1, h.2.2.1, h.2.2.2.1, h.2.2.2.2⟩⟩
/-! ### A slice that grows: nil, or a block of the run's own -/
def accV (o n : Nat) (out : List (List V)) : V := if out = [] then .d (.val (.slice none 0 0)) else .msl o n 0 out.length
def accO (n : Nat) (out : List (List V)) : Option Own := if out = [] then none else some ⟨n, out⟩
theorem accV_nil {o n : Nat} : accV o n [] = .d (.val (.slice none 0 0)) := nrfl (if_pos rfl)
theorem accO_nil {n : Nat} : accO n [] = none := nrfl (if_pos rfl)
theorem renV_acc {rl : List Nat} {o n : Nat} {out : List (List V)} : renV rl (accV o n out) = accV (rl.getD o 0) n out := by
 unfold accV; split
 ·exact renV_d
 ·exact renV_msl
theorem refs_acc {S : Nat → Prop} {o n : Nat} {out : List (List V)} : V.refs S (accV o n out) = (out ≠ [] → S o) := by
 unfold accV; split
 ·next h => simp [refs_d, h]
 ·next h => simp [refs_msl, h]
theorem inO_acc {rl : List Nat} {m o n : Nat} {out : List (List V)} : inO rl m σ o (accO n out) = (out ≠ [] → σ o = some ⟨n, renRows rl out⟩ ∧ okRows m out) := by
 unfold accO; split
 ·next h => simp [inO, h]
 ·next h => simp [inO, h]
theorem renRows_data {rl : List Nat} {l : List (List D)} : renRows rl (l.map (·.map .d)) = l.map (·.map .d) := by
 rw [renRows_map, List.map_map]
 refine List.map_congr_left fun x _ => ?_
 simp only [Function.comp, List.map_map]
 exact List.map_congr_left fun y _ => renV_d
theorem accO_some {n : Nat} {out : List (List V)} (h : out ≠ []) : accO n out = some ⟨n, out⟩ := if_neg h
theorem app_acc {n byt o id : Nat} {z : List V} {sq : Bool} {y : V} {out src : List (List V)} {L : V → Heap → Prop} (hsq : sq = true) (hσ : σ o = accO n out) (h5 : srcRows σ y = some src) (hne : src ≠ []) (h6 : ∀ r ∈ src, r.length = n) (h7 : RowsOne src)
  (h8 : (2 * (out.length + src.length) + 1000) * byt ≤ 2 ^ 48) (k : L (accV id n (out ++ src)) (upd (del σ o) id (some ⟨n, out ++ src⟩))) : appK (some (n, byt, z)) sq σ id (accV o n out) y L := by
 by_cases h : out = []
 ·subst h
  rw [accV_nil]
  rw [List.nil_append] at k
  refine ⟨n, byt, z, _, rfl, hsq, .inl rfl, .inr (.inl ⟨o, src, rfl, h5, hne, h6, by simpa using h8, ?_⟩)⟩
  have e : accV id n src = .msl id n 0 src.length := if_neg hne
  rw [← e]; exact k
 ·have e : accV id n (out ++ src) = .msl id n 0 (out.length + src.length) := by rw [accV, if_neg (by simp [h])]; simp
  rw [accV, if_neg h]
  refine ⟨n, byt, z, _, rfl, hsq, .inl rfl, .inl ⟨o, out.length, ⟨n, out⟩, src, rfl, by rw [hσ, accO_some h], rfl, rfl, h5, h6, h7, h8, ?_⟩⟩
  rw [← e]; exact k
theorem SealD.data {rows : List (List D)} {o n : Nat} (h : σ o = accO n (rows.map (·.map .d))) : SealD σ (accV o n (rows.map (·.map .d))) (.sl rows) := by
 by_cases hr : rows = []
 ·subst hr; exact .nil none 0
 ·have hr' : rows.map (·.map V.d) ≠ [] := by simpa using hr
  rw [accV, if_neg hr']
  rw [accO_some hr'] at h
  have := SealD.msl (σ := σ) (o := o) (k := n) (off := 0) (ds := rows) h rfl (by simp) (fun i hi => by simp [List.getD_eq_getElem?_getD, hi]) (fun i j hi hj => by
   simp [List.getD_eq_getElem?_getD, hi, hj]; exact .d _)
  simpa using this
end
end Go.Iso
namespace Go.Iso
open Go Go.RowKit
set_option linter.unusedSimpArgs false
set_option linter.unusedVariables false
def iter {S R : Type} : Nat → ((S → Option R) → S → Option R) → S → Option R
 | 0, _, _ => none
 | k + 1, f, s => f (iter k f) s
theorem iter_succ {S R : Type} {k : Nat} {f : (S → Option R) → S → Option R} {s : S} : iter (k + 1) f s = f (iter k f) s := nrfl rfl
def idx {α : Type} (l : List α) (z : Int) : Option α := if 0 ≤ z then l[z.toNat]? else none
theorem idx_some {α : Type} {l : List α} {z : Int} {x : α} (h : idx l z = some x) : 0 ≤ z ∧ l[z.toNat]? = some x := by
 unfold idx at h; split at h
 ·next h0 => exact ⟨h0, h⟩
 ·cases h
theorem idx_nat {α : Type} {l : List α} {k : Nat} : idx l (k : Int) = l[k]? := by simp [idx]
theorem obind {α β : Type} {o : Option α} {f : α → Option β} {r : β} (h : o.bind f = some r) : ∃ x, o = some x ∧ f x = some r := by
 cases o with
 | none => cases h
 | some x => exact ⟨x, rfl, h⟩
theorem obindE {α β : Type} {o : Option α} {f : α → Option β} {r : β} {C : Prop} (h : o.bind f = some r) (k : ∀ x, o = some x → f x = some r → C) : C :=
 let ⟨x, h1, h2⟩ := obind h; k x h1 h2
inductive Out (S R : Type) where
 | go (s : S)
 | out (r : R)
def Out.fin {S R : Type} (f : S → Option R) : Out S R → Option R
 | .go s => f s
 | .out r => some r
theorem Out.fin_go {S R : Type} {f : S → Option R} {s : S} : Out.fin f (.go s) = f s := nrfl rfl
theorem Out.fin_out {S R : Type} {f : S → Option R} {r : R} : Out.fin f (.out r) = some r := nrfl rfl
def outM {S R : Type} (e : Option R) : Option (Out S R) := e.map .out
theorem outM_some {S R : Type} {e : Option R} {o : Out S R} (h : outM e = some o) : ∃ r, e = some r ∧ o = .out r := by
 cases e with
 | none => cases h
 | some r => exact ⟨r, rfl, (Option.some.inj h).symm⟩
def appO {α : Type} (byt : Nat) (l r : List α) : Option (List α) := if (2 * (l.length + r.length) + 1000) * byt ≤ 2 ^ 48 then some (l ++ r) else none
theorem appO_some {α : Type} {byt : Nat} {l r x : List α} (h : appO byt l r = some x) : (2 * (l.length + r.length) + 1000) * byt ≤ 2 ^ 48 ∧ x = l ++ r := by
 unfold appO at h; split at h
 ·next h1 => exact ⟨h1, (Option.some.inj h).symm⟩
 ·cases h
def must (b : Bool) : Option Unit := if b then some () else none
theorem must_some {b : Bool} {u : Unit} (h : must b = some u) : b = true := by
 cases b with
 | true => rfl
 | false => cases h
section
variable {P : Program} {N B : Nat} {Q : Exit → St → Prop} {st : St} {α : Type} {σ : Heap}
/-! ### Sealing on the way -/
def keepH (ds : List Nat) (σ : Heap) : Heap := fun o => if o ∈ ds then σ o else none
def dropH (ds : List Nat) (σ : Heap) : Heap := fun o => if o ∈ ds then none else σ o
def putL (fr : Nat → V) : List (Nat × V) → Nat → V
 | [], t => fr t
 | (s, v) :: l, t => if t = s then v else putL fr l t
def sealL (τ : Heap) (fr : Nat → V) : List (Nat × V) → Prop
 | [] => True
 | (s, v) :: l => SealV τ (fr s) v ∧ sealL τ fr l
theorem keepH_at {ds : List Nat} {o : Nat} : keepH ds σ o = if o ∈ ds then σ o else none := nrfl rfl
theorem dropH_at {ds : List Nat} {o : Nat} : dropH ds σ o = if o ∈ ds then none else σ o := nrfl rfl
theorem putL_nil {fr : Nat → V} {t : Nat} : putL fr [] t = fr t := nrfl rfl
theorem putL_cons {fr : Nat → V} {s t : Nat} {v : V} {l : List (Nat × V)} : putL fr ((s, v) :: l) t = if t = s then v else putL fr l t := nrfl rfl
theorem sealL_nil {τ : Heap} {fr : Nat → V} : sealL τ fr [] = True := nrfl rfl
theorem sealL_cons {τ : Heap} {fr : Nat → V} {s : Nat} {v : V} {l : List (Nat × V)} : sealL τ fr ((s, v) :: l) = (SealV τ (fr s) v ∧ sealL τ fr l) := nrfl rfl
theorem sealL_get [Glb] {τ : Heap} {fr : Nat → V} {ρ : Nat → Option Nat} {I : Nat → Prop} {w : World} (hh : HeapOk τ ρ I w) : ∀ {l : List (Nat × V)}, sealL τ fr l → ∀ t {c : Value}, RepV ρ I w (fr t) c → RepV ρ (fun b => I b ∨ Owns τ ρ b) w (putL fr l t) c
 | [], _, t, c, hr => hr.mono (fun _ _ h => h) (fun _ h => .inl h) (fun _ _ => rfl) (fun _ => .of_eq rfl)
 | (s, v) :: l, h, t, c, hr => by
  unfold sealL at h
  rw [putL_cons]; split
  ·next e => subst e; exact h.1.rep hh hr
  ·exact sealL_get hh h.2 t hr
def putH (σ : Heap) : List (Nat × Own) → Heap
 | [], o => σ o
 | (s, x) :: l, o => if o = s then some x else putH σ l o
def sealH (τ σ : Heap) : List (Nat × Own) → Prop
 | [] => True
 | (s, x) :: l => optK (σ s) (Later (Hold fun y => y.k = x.k ∧ SealRows τ y.rows x.rows)) ∧ sealH τ σ l
theorem putH_nil {o : Nat} : putH σ [] o = σ o := nrfl rfl
theorem putH_cons {s o : Nat} {x : Own} {l : List (Nat × Own)} : putH σ ((s, x) :: l) o = if o = s then some x else putH σ l o := nrfl rfl
theorem sealH_nil {τ : Heap} : sealH τ σ [] = True := nrfl rfl
theorem sealH_cons {τ : Heap} {s : Nat} {x : Own} {l : List (Nat × Own)} : sealH τ σ ((s, x) :: l) = (optK (σ s) (Later (Hold fun y => y.k = x.k ∧ SealRows τ y.rows x.rows)) ∧ sealH τ σ l) := nrfl rfl
theorem putH_get {τ : Heap} : ∀ {l : List (Nat × Own)}, sealH τ σ l → ∀ o x, putH σ l o = some x → σ o = some x ∨ ∃ y, σ o = some y ∧ y.k = x.k ∧ SealRows τ y.rows x.rows
 | [], _, o, x, h => .inl h
 | (s, z) :: l, hs, o, x, h => by
  unfold sealH at hs
  rw [putH_cons] at h
  split at h
  ·next e =>
   subst e; cases h
   obtain ⟨y, h1, h2⟩ := optK_some hs.1
   rw [Later_apply] at h2
   exact .inr ⟨y, h1, h2⟩
  ·exact putH_get hs.2 o x h
def sealSt (ds : List Nat) (l : List (Nat × V)) (hl : List (Nat × Own)) (st : St) : St := ⟨putL st.fr l, dropH ds (putH st.σ hl), st.n⟩
theorem Conc.sealed [Glb] {ds : List Nat} {l : List (Nat × V)} {hl : List (Nat × Own)} {ρ : Nat → Option Nat} {I : Nat → Prop} {a : Act} {w : World} (hc : Conc N B st ρ I a w) (hs : sealL (keepH ds st.σ) st.fr l) (hh : sealH (keepH ds st.σ) st.σ hl) :
  Conc N B (sealSt ds l hl st) ρ (fun b => I b ∨ Owns (keepH ds st.σ) ρ b) a w ∧ Frame B st.σ ρ I w (sealSt ds l hl st).σ ρ (fun b => I b ∨ Owns (keepH ds st.σ) ρ b) w := by
 have kp : ∀ o x, keepH ds st.σ o = some x → o ∈ ds ∧ st.σ o = some x := fun o x h => by
  unfold keepH at h; split at h
  ·next h1 => exact ⟨h1, h⟩
  ·cases h
 have dp : ∀ o x, dropH ds (putH st.σ hl) o = some x → o ∉ ds ∧ putH st.σ hl o = some x := fun o x h => by
  unfold dropH at h; split at h
  ·cases h
  ·next h1 => exact ⟨h1, h⟩
 have src : ∀ o x, dropH ds (putH st.σ hl) o = some x → ∃ y, st.σ o = some y := fun o x h => by
  rcases putH_get hh o x (dp o x h).2 with h | ⟨y, h, _⟩
  ·exact ⟨x, h⟩
  ·exact ⟨y, h⟩
 have hk : HeapOk (keepH ds st.σ) ρ I w := hc.heap.forget fun o x h => (kp o x h).2
 have hlt : ∀ b, (I b ∨ Owns (keepH ds st.σ) ρ b) → b < w.heap.size := fun b hb => hb.elim (hc.heap.lt b) fun h => hk.owns_lt h
 have notI : ∀ o y b, o ∉ ds → st.σ o = some y → ρ o = some b → ¬ I b → ¬ (I b ∨ Owns (keepH ds st.σ) ρ b) := by
  rintro o y b h1 h2 h3 h4 (hb | ⟨o', x', l1, l2⟩)
  ·exact h4 hb
  ·obtain ⟨m1, m2⟩ := kp o' x' l1
   exact h1 (hc.heap.inj o o' _ _ b h2 m2 h3 l2 ▸ m1)
 have up : ∀ {v : V} {c : Value}, RepV ρ I w v c → RepV ρ (fun b => I b ∨ Owns (keepH ds st.σ) ρ b) w v c := fun h => h.mono (fun _ _ h => h) (fun _ h => .inl h) (fun _ _ => rfl) (fun _ => .of_eq rfl)
 refine ⟨⟨⟨fun o x ho => ?_, fun o o' x x' b h1 h2 h3 h4 => ?_, hc.heap.base.up (fun _ h => .inl h) hlt⟩, hc.fresh, fun t => sealL_get hk hs t (hc.frame t), hc.defers, hc.size, hc.base⟩, ⟨?_, fun _ _ => rfl⟩⟩
 ·obtain ⟨h1, h2⟩ := dp o x ho
  rcases putH_get hh o x h2 with h2 | ⟨y, h2, h3, h4⟩
  ·obtain ⟨b, c, e, k1, k2, k3, k4, k5⟩ := hc.heap.own o x h2
   exact ⟨b, c, e, k1, k2, k3, notI o x b h1 h2 k1 k4, fun i hi => ⟨(k5 i hi).1, fun j hj => up ((k5 i hi).2 j hj)⟩⟩
  ·obtain ⟨b, c, e, k1, k2, k3, k4, k5⟩ := hc.heap.own o y h2
   have hg := h4.get
   refine ⟨b, c, e, k1, k2.slr h3.symm h4, by rw [← hg.1, ← h3]; exact k3, notI o y b h1 h2 k1 k4, fun i hi => ?_⟩
   have hi' : i < y.rows.length := by rw [hg.1]; exact hi
   have hs := (hg.2 i hi' hi).get
   obtain ⟨q1, q2⟩ := k5 i hi'
   refine ⟨by rw [← hs.1, ← h3]; exact q1, fun j hj => ?_⟩
   have hj' : j < y.rows[i].length := by rw [hs.1]; exact hj
   have := (hs.2 j hj' hj).rep hk (q2 j hj')
   rw [← h3]; exact this
 ·obtain ⟨y, l1⟩ := src o x h1
  obtain ⟨y', l2⟩ := src o' x' h2
  exact hc.heap.inj o o' _ _ b l1 l2 h3 h4
 ·refine ⟨rfl, rfl, rfl, Nat.le_refl _, fun _ _ _ => rfl, fun _ => .of_eq rfl, fun b ⟨o, x, h1, h2⟩ => ?_, fun _ h => .inl h, fun b hb => ?_⟩
  ·obtain ⟨y, l1⟩ := src o x h1
   exact .inl ⟨o, y, l1, h2⟩
  ·rcases hb with h | ⟨o, x, h1, h2⟩
   ·exact .inl h
   ·exact .inr (.inl ⟨o, x, (kp o x h1).2, h2⟩)
def SealSt (st st' : St) : Prop := st' = st ∨ ∃ ds l hl, sealL (keepH ds st.σ) st.fr l ∧ sealH (keepH ds st.σ) st.σ hl ∧ st' = sealSt ds l hl st
theorem Conc.sealSt [Glb] {st' : St} {ρ : Nat → Option Nat} {I : Nat → Prop} {a : Act} {w : World} (hc : Conc N B st ρ I a w) (h : SealSt st st') : ∃ I', Conc N B st' ρ I' a w ∧ Frame B st.σ ρ I w st'.σ ρ I' w := by
 rcases h with rfl | ⟨ds, l, hl, h1, h2, rfl⟩
 ·exact ⟨I, hc, Frame.refl⟩
 ·exact ⟨_, hc.sealed h1 h2⟩
def JoinQ {S : Type} (B : Nat) (l : S → List (Nat × V)) (h : S → List (Option Own)) (J : S → Prop) (s : St) : Prop := ∃ s' a rl, SealSt s s' ∧ J a ∧ RoundC B rl s' (l a) (h a)
theorem JoinQ.mk {S : Type} {l : S → List (Nat × V)} {h : S → List (Option Own)} {J : S → Prop} {s : St} (a : S) (rl : List Nat) (hj : J a) (hr : RoundC B rl s (l a) (h a)) : JoinQ B l h J s := ⟨s, a, rl, .inl rfl, hj, hr⟩
theorem JoinQ.mkS {S : Type} {l : S → List (Nat × V)} {h : S → List (Option Own)} {J : S → Prop} {fr : Nat → V} {n : Nat} (a : S) (rl ds : List Nat) (sl : List (Nat × V)) (hl : List (Nat × Own)) (hj : J a) (hs : sealL (keepH ds σ) fr sl) (hh : sealH (keepH ds σ) σ hl) (hr : RoundC B rl ⟨putL fr sl, dropH ds (putH σ hl), n⟩ (l a) (h a)) : JoinQ B l h J ⟨fr, σ, n⟩ := ⟨_, a, rl, .inr ⟨ds, sl, hl, hs, hh, rfl⟩, hj, hr⟩
theorem AW.join [Glb] {S : Type} {x : Code} (l : S → List (Nat × V)) (h : S → List (Option Own)) (J : S → Prop) (h1 : AW P N B x (thenQ (JoinQ B l h J) Q) st) (h2 : ∀ s, J s → Q .normal (mkR (l s) (h s))) : AW P N B x Q st := by
 intro ρ I a w hc
 refine wp_mono (h1 ρ I a w hc) ?_
 rintro e a' w' ⟨st', ρ', I', k1, k2, k3⟩
 cases e with
 | normal =>
  obtain ⟨s', y, rl, l0, l1, l3⟩ := k1
  obtain ⟨I2, n1, n2⟩ := k2.sealSt l0
  obtain ⟨m1, m2⟩ := n1.round l3
  exact ⟨_, _, I2, h2 y l1, m1, k3.trans (n2.trans (Frame.round l3 m2))⟩
 | _ => exact ⟨st', ρ', I', k1, k2, k3⟩
def NextQ {S R : Type} (B : Nat) (l : S → List (Nat × V)) (h : S → List (Option Own)) (F : S → Option R) (o : R) (s : St) : Prop := ∃ s' a rl, SealSt s s' ∧ F a = some o ∧ RoundC B rl s' (l a) (h a)
theorem NextQ.mk {S R : Type} {l : S → List (Nat × V)} {h : S → List (Option Own)} {F : S → Option R} {o : R} {s : St} (a : S) (rl : List Nat) (hj : F a = some o) (hr : RoundC B rl s (l a) (h a)) : NextQ B l h F o s := ⟨s, a, rl, .inl rfl, hj, hr⟩
theorem NextQ.mkS {S R : Type} {l : S → List (Nat × V)} {h : S → List (Option Own)} {F : S → Option R} {o : R} {fr : Nat → V} {n : Nat} (a : S) (rl ds : List Nat) (sl : List (Nat × V)) (hl : List (Nat × Own)) (hj : F a = some o) (hs : sealL (keepH ds σ) fr sl) (hh : sealH (keepH ds σ) σ hl) (hr : RoundC B rl ⟨putL fr sl, dropH ds (putH σ hl), n⟩ (l a) (h a)) : NextQ B l h F o ⟨fr, σ, n⟩ := ⟨_, a, rl, .inr ⟨ds, sl, hl, hs, hh, rfl⟩, hj, hr⟩
theorem AW.iter [Glb] {S R : Type} {c : Code} (l : S → List (Nat × V)) (h : S → List (Option Own)) {f : (S → Option R) → S → Option R} {o : R} {k : Nat} {s0 : S} (rl0 : List Nat) (h0 : iter k f s0 = some o) (h1 : RoundC B rl0 st (l s0) (h s0))
  (hr : ∀ (g : S → Option R) s, f g s = some o → AW P N B c (thenQ (NextQ B l h g o) Q) (mkR (l s) (h s))) : AW P N B (.loop c) Q st := by
 refine AW.round h1 (AW.loop (fun m s => ∃ x, Iso.iter m f x = some o ∧ s = mkR (l x) (h x)) (m := k) ⟨s0, h0, rfl⟩ ?_)
 rintro m s ⟨x, hx, rfl⟩
 cases m with
 | zero => cases hx
 | succ m =>
  rw [iter_succ] at hx
  intro ρ I a w hc
  refine wp_mono (hr _ x hx ρ I a w hc) ?_
  rintro e a' w' ⟨st', ρ', I', k1, k2, k3⟩
  cases e with
  | normal =>
   obtain ⟨s', y, rl, l0, l2, l3⟩ := k1
   obtain ⟨I2, n1, n2⟩ := k2.sealSt l0
   obtain ⟨m1, m2⟩ := n1.round l3
   exact ⟨_, _, I2, ⟨m, Nat.lt_succ_self m, y, l2, rfl⟩, m1, k3.trans (n2.trans (Frame.round l3 m2))⟩
  | _ => exact ⟨st', ρ', I', k1, k2, k3⟩
theorem AW.reg [Glb] (hm : P.follows .mixedOrders = true) {id n : Nat} {l : List Oper} {dr : Bool} {fr : Nat → V} (hok : okB N (.region id l.toArray dr) = true)
  (h : numK (n + l.length) (Later (Hold fun M => vcOps P dr n M l.toArray l 0 fr σ (Later (Hold fun fr σ => Q .normal ⟨fr, σ, M⟩))))) : AW P N B (.region id l.toArray dr) Q ⟨fr, σ, n⟩ :=
 AW.region hm hok (by simpa [numK, Later] using h)
theorem AW.one [Glb] {x y : Code} (h : AW P N B x (thenQ (fun s => AW P N B y Q s) Q) st) : AW P N B (.seq x y) Q st := AW.seq h
theorem AW.cut [Glb] {c : Code} (rl : List Nat) (l : List (Nat × V)) (h : List (Option Own)) (hr : RoundC B rl st l h) (k : AW P N B c Q (mkR l h)) : AW P N B c Q st := AW.round hr k
theorem AW.sealed [Glb] {c : Code} {fr : Nat → V} {n : Nat} (ds : List Nat) (sl : List (Nat × V)) (hl : List (Nat × Own)) (hs : sealL (keepH ds σ) fr sl) (hh : sealH (keepH ds σ) σ hl) (k : AW P N B c Q ⟨putL fr sl, dropH ds (putH σ hl), n⟩) : AW P N B c Q ⟨fr, σ, n⟩ := by
 intro ρ I a w hc
 obtain ⟨h1, h2⟩ := hc.sealed hs hh
 refine wp_mono (k _ _ a w h1) ?_
 rintro e a' w' ⟨st2, ρ', I', k1, k2, k3⟩
 exact ⟨st2, ρ', I', k1, k2, h2.trans k3⟩
theorem AW.cutS [Glb] {c : Code} {fr : Nat → V} {n : Nat} (rl ds : List Nat) (sl : List (Nat × V)) (hl : List (Nat × Own)) (l : List (Nat × V)) (h : List (Option Own)) (hs : sealL (keepH ds σ) fr sl) (hh : sealH (keepH ds σ) σ hl) (hr : RoundC B rl ⟨putL fr sl, dropH ds (putH σ hl), n⟩ l h) (k : AW P N B c Q (mkR l h)) : AW P N B c Q ⟨fr, σ, n⟩ := AW.sealed ds sl hl hs hh (AW.round hr k)
/-! ### A slice that is nil, or data -/
def nilV {α : Type} (f : α → List D) (o : Option (List α)) : V := match o with | none => .d (.val (.slice none 0 0)) | some l => slV f l
theorem nilV_none {α : Type} {f : α → List D} : nilV f none = .d (.val (.slice none 0 0)) := nrfl rfl
theorem sealNil {α : Type} {f : α → List D} {o : Option (List α)} : SealV σ (nilV f o) (slV f (o.getD [])) := by
 cases o with
 | none => exact .nil
 | some l => exact .same _
theorem refs_nilV {α : Type} {f : α → List D} {o : Option (List α)} {S : Nat → Prop} : V.refs S (nilV f o) = True := by cases o <;> simp [nilV, refs_d]
theorem renV_nilV {α : Type} {f : α → List D} {o : Option (List α)} {rl : List Nat} : renV rl (nilV f o) = nilV f o := by cases o <;> simp [nilV, renV_d]
theorem must_none {α : Type} {o : Option α} {u : Unit} (h : must o.isNone = some u) : o = none := by have := must_some h; simpa using this
theorem Cn.ofA [Glb] {f : FuncId} {fn : Func} {c : Code} {args : List V} {v : V} {N : Nat} {rs : Array ResultVar} (hm : P.follows .mixedOrders = true) (hf : P.funcs[f]? = some fn) (hb : fn.body = some c) (hc : Callable P f) (hN : fn.ntmps = N) (hr : fn.results = rs) (hn : args.length ≤ N)
  (hv : v.refs NoRef) (h : fitA args → AW P N 0 c (retQ P rs.toList (Later (Hold fun st u => SealV st.σ u v))) ⟨argF args, Heap.none, 0⟩) : Cn P f args v := by
 subst hN hr
 refine ⟨hc, fun I w cargs hlt hA => calls_of_wp hf hb ?_⟩
 have hh : HeapOk Heap.none (fun _ => none) I w := ⟨(fun o x h => by cases h), (fun o o' x x' b h => by cases h), hlt⟩
 have hcon : Conc fn.ntmps 0 ⟨argF args, Heap.none, 0⟩ (fun _ => none) I ⟨cargs ++ Array.replicate (fn.ntmps - cargs.size) undef, []⟩ w :=
  ⟨hh, fun _ _ => rfl, fun t => entry_frame hA t, rfl, by simp [hA.size]; omega, Nat.le_refl 0⟩
 refine wp_mono (h (fitA_of args _ hA.rep) _ I _ w hcon) ?_
 rintro e a' w' ⟨st', ρ', I', h1, h2, h3⟩
 have fin : resK P st' fn.results.toList (fun u => SealV st'.σ u v) → a'.defers = [] ∧ ∃ c, (results fn a'.tmps).run P w' = .ok c w' ∧ ∃ c' I'', Ending.returned c = .returned c' ∧ Pure I w I'' w' ∧ RepV (fun _ => none) I'' w' v c' := by
  intro hk
  obtain ⟨u, c, k1, k2, k3⟩ := resK_sound h2 hk
  have hno : ∀ b, ¬ Owns Heap.none (fun _ => none) b := fun b ⟨_, _, h, _⟩ => by cases h
  refine ⟨h2.defers, c, k3, c, fun b => I' b ∨ Owns st'.σ ρ' b, rfl, ⟨⟨h3.os, h3.tape, h3.output, h3.size, fun b hb => h3.kept b hb (hno b)⟩, fun b hb => .inl (h3.imm b hb), fun b hb => ?_, fun b hb => ?_⟩, ?_⟩
  ·rcases hb with hb | hb
   ·rcases h3.immNew b hb with h | h | h
    ·exact .inl h
    ·exact absurd h (hno b)
    ·exact .inr h
   ·rcases h3.owned b hb with h | h
    ·exact absurd h (hno b)
    ·exact .inr h
  ·rcases hb with hb | hb
   ·exact h2.heap.lt b hb
   ·exact h2.heap.owns_lt hb
  ·exact (k1.rep h2.heap k2).reid hv fun _ _ h => h.elim
 cases e with
 | normal => obtain ⟨k1, c, k2, k3⟩ := fin h1; exact ⟨k1, c, k2, k3⟩
 | ret => obtain ⟨k1, c, k2, k3⟩ := fin h1; exact ⟨k1, c, k2, k3⟩
 | _ => exact h1.elim
theorem Cl.ofA [Glb] {f : FuncId} {fn : Func} {c : Code} {args : List V} {h h' : List Own} {v : V} {N : Nat} {rs : Array ResultVar} (hm : P.follows .mixedOrders = true) (hf : P.funcs[f]? = some fn) (hb : fn.body = some c) (hc : Callable P f) (hN : fn.ntmps = N) (hr : fn.results = rs) (hn : args.length ≤ N)
  (hl : h'.length = h.length) (hrA : V.refsL (· < h.length) args) (hrV : v.refs (· < h.length)) (hrH : ∀ x ∈ h, okRows h.length x.rows) (hrH' : ∀ x ∈ h', okRows h.length x.rows)
  (hvc : fitA args → AW P N h.length c (retQ P rs.toList (Later (Hold fun st u => SealV (priv h.length st.σ) u v ∧ endH h.length st.σ 0 h'))) ⟨argF args, hpA h, h.length⟩) : Cl P f args h v h' := by
 subst hN hr
 refine ⟨hc, hl, hrA, hrV, hrH, fun ρ I w cargs hh hfr hA => calls_of_wp hf hb ?_⟩
 have hcon : Conc fn.ntmps h.length ⟨argF args, hpA h, h.length⟩ ρ I ⟨cargs ++ Array.replicate (fn.ntmps - cargs.size) undef, []⟩ w :=
  ⟨hh, hfr, fun t => entry_frame hA t, rfl, by simp [hA.size]; omega, Nat.le_refl _⟩
 refine wp_mono (hvc (fitA_of args _ hA.rep) _ I _ w hcon) ?_
 rintro e a' w' ⟨st', ρ', I', h1, h2, h3⟩
 have fin : resK P st' fn.results.toList (fun u => SealV (priv h.length st'.σ) u v ∧ endH h.length st'.σ 0 h') → a'.defers = [] ∧ ∃ c, (results fn a'.tmps).run P w' = .ok c w' ∧ ∃ c' I'', Ending.returned c = .returned c' ∧ Kept (hpA h) ρ I w (hpA h') ρ I'' w' ∧ HeapOk (hpA h') ρ I'' w' ∧ RepV ρ I'' w' v c' := by
  intro hk
  obtain ⟨u, c, ⟨k1, kE⟩, k2, k3⟩ := resK_sound h2 hk
  have hpr : HeapOk (priv h.length st'.σ) ρ' I' w' := h2.heap.forget fun o x ho => by
   unfold priv at ho; split at ho
   ·cases ho
   ·exact ho
  have pge : ∀ o x, priv h.length st'.σ o = some x → h.length ≤ o ∧ st'.σ o = some x := fun o x ho => by
   unfold priv at ho; split at ho
   ·cases ho
   ·exact ⟨by omega, ho⟩
  have low : ∀ o b, o < h.length → ρ' o = some b → ρ o = some b := fun o b ho hb => by rw [← h3.low o ho]; exact hb
  have stay : ∀ j (hj : j < h'.length), ∃ y, st'.σ j = some y ∧ y.k = h'[j].k ∧ SealRows (priv h.length st'.σ) y.rows h'[j].rows := fun j hj => by
   have := endH_get kE j hj; simpa using this
  refine ⟨h2.defers, c, k3, c, fun b => I' b ∨ Owns (priv h.length st'.σ) ρ' b, rfl, ⟨h3.os, h3.tape, h3.output, h3.size, h3.kept, h3.sz, fun b hb => ?_, fun b hb => .inl (h3.imm b hb), fun b hb => ?_⟩, ⟨fun o x ho => ?_, fun o o' x x' b l1 l2 l3 l4 => ?_, h2.heap.base.up (fun _ h => .inl h) fun b hb => ?_⟩, ?_⟩
  ·obtain ⟨o, x, l1, l2⟩ := hb
   obtain ⟨hj, rfl⟩ := List.getElem?_eq_some_iff.1 l1
   obtain ⟨y, m1, _⟩ := stay o hj
   exact h3.owned b ⟨o, y, m1, by rw [h3.low o (by omega)]; exact l2⟩
  ·rcases hb with hb | ⟨o, x, l1, l2⟩
   ·exact h3.immNew b hb
   ·exact (h3.owned b ⟨o, x, (pge o x l1).2, l2⟩).elim (fun h => .inr (.inl h)) (fun h => .inr (.inr h))
  ·obtain ⟨hj, rfl⟩ := List.getElem?_eq_some_iff.1 ho
   obtain ⟨y, m1, m2, m3⟩ := stay o hj
   obtain ⟨b, c, e, n1, n2, n3, n4, n5⟩ := h2.heap.own o y m1
   have hlen := m3.get.1
   refine ⟨b, c, e, low o b (by omega) n1, n2.slr m2.symm m3, by rw [← hlen, ← m2]; exact n3, ?_, fun i hi => ?_⟩
   ·rintro (hb | ⟨o', x', l1, l2⟩)
    ·exact n4 hb
    ·obtain ⟨p1, p2⟩ := pge o' x' l1
     have := h2.heap.inj o o' _ _ b m1 p2 n1 l2
     omega
   ·have hs := m3.get.2 i (by omega) hi
    obtain ⟨q1, q2⟩ := n5 i (by omega)
    refine ⟨by rw [← hs.get.1, ← m2]; exact q1, fun j hj' => ?_⟩
    have := (hs.get.2 j (by rw [hs.get.1]; exact hj') hj').rep hpr (q2 j (by rw [hs.get.1]; exact hj'))
    rw [← m2]
    exact this.reid (hrH' _ (List.getElem_mem hj) _ (List.getElem_mem hi) _ (List.getElem_mem hj')) fun o b h1 h2 => low o b h1 h2
  ·obtain ⟨hj, rfl⟩ := List.getElem?_eq_some_iff.1 l1
   obtain ⟨hj', rfl⟩ := List.getElem?_eq_some_iff.1 l2
   obtain ⟨y, m1, _⟩ := stay o hj
   obtain ⟨y', m2, _⟩ := stay o' hj'
   exact h2.heap.inj o o' _ _ b m1 m2 (by rw [h3.low o (by omega)]; exact l3) (by rw [h3.low o' (by omega)]; exact l4)
  ·rcases hb with hb | hb
   ·exact h2.heap.lt b hb
   ·exact hpr.owns_lt hb
  ·exact (k1.rep hpr k2).reid hrV fun o b h1 h2 => low o b h1 h2
 cases e with
 | normal => obtain ⟨k1, c, k2, k3⟩ := fin (by simpa [retQ, Later_apply] using h1); exact ⟨k1, c, k2, k3⟩
 | ret => obtain ⟨k1, c, k2, k3⟩ := fin (by simpa [retQ, Later_apply] using h1); exact ⟨k1, c, k2, k3⟩
 | _ => exact h1.elim
theorem accV_msl {o n : Nat} {out : List (List V)} (h : out ≠ []) : accV o n out = .msl o n 0 out.length := if_neg h
theorem lenK_acc {t e : TypeId} {K : V → Prop} {o n : Nat} {out : List (List V)} (h : elOf P t = some e) : lenK P t (accV o n out) K = K (.d (.val (.int .i64 out.length))) := by
 unfold accV; split
 ·next h1 => subst h1; exact lenK_nil h
 ·exact lenK_msl h
theorem sealAcc {α : Type} {f : α → List D} {xs : List α} {o n : Nat} (h : σ o = accO n ((xs.map f).map (·.map .d))) : SealV σ (accV o n ((xs.map f).map (·.map .d))) (slV f xs) := .d (.data h)
@[congr] theorem JoinQ_congr {S : Type} {l : S → List (Nat × V)} {h : S → List (Option Own)} {J : S → Prop} {s : St} : JoinQ B l h J s = JoinQ B l h J s := nrfl rfl
@[congr] theorem NextQ_congr {S R : Type} {l : S → List (Nat × V)} {h : S → List (Option Own)} {F : S → Option R} {o : R} {s : St} : NextQ B l h F o s = NextQ B l h F o s := nrfl rfl
theorem ifT {b : Bool} {x y r : Option α} (hb : b = true) (h : (if b then x else y) = r) : x = r := by subst hb; simpa using h
theorem ifF {b : Bool} {x y r : Option α} (hb : b = false) (h : (if b then x else y) = r) : y = r := by subst hb; simpa using h
theorem appD {β : Type} {n byt id : Nat} {z : List V} {sq : Bool} {f : β → List D} {r v : List β} {L : V → Heap → Prop} (hx : appO byt [] r = some v) (hsq : sq = true) (h6 : ∀ x ∈ r, (f x).length = n)
  (k : L (.d (.sl (v.map f))) σ) : appK (some (n, byt, z)) sq σ id (.d (.val (.slice none 0 0))) (.d (.sl (r.map f))) L := by
 obtain ⟨hb, rfl⟩ := appO_some hx
 refine app_data hsq (fun row hr => ?_) (by simpa using hb) (by simpa using k)
 obtain ⟨x, hx, rfl⟩ := List.mem_map.1 hr
 exact h6 x hx
def NilR : List (List D) → List (List D) → Prop
 | [], [] => True
 | r :: a, s :: b => NilL r s ∧ NilR a b
 | _, _ => False
theorem NilR.get : ∀ {a b : List (List D)}, NilR a b → a.length = b.length ∧ ∀ i (hi : i < a.length) (hi' : i < b.length), NilL a[i] b[i]
 | [], [], _ => ⟨rfl, fun i hi => absurd hi (Nat.not_lt_zero i)⟩
 | r :: a, s :: b, h => by
  unfold NilR at h
  obtain ⟨h1, h2⟩ := NilR.get h.2
  refine ⟨by simp [h1], fun i hi hi' => ?_⟩
  cases i with
  | zero => exact h.1
  | succ i => exact h2 i (by simpa using hi) (by simpa using hi')
 | [], _ :: _, h => h.elim
 | _ :: _, [], h => h.elim
theorem NilD.rows {a b : List (List D)} (h : NilR a b) : NilD (.sl a) (.sl b) :=
 .sl h.get.1 (fun i hi hi' => (h.get.2 i hi hi').get.1) fun i j hi hi' hj hj' => (h.get.2 i hi hi').get.2 j hj hj'
theorem cv_int {s d : TypeId} {u : TypeDesc} {k k' : IntKind} {z : Int} (hs : P.underlying s = some u) (hd : P.underlying d = some (.int k)) : cvOf P s d (.int k' z) = some (.int k (k.wrap z)) := by
 simp [cvOf, hs, hd]
def catO (a b : ByteArray) : Option ByteArray := if ((a.size + b.size : Nat) : Int) ≤ IntKind.i64.max then some (a ++ b) else none
theorem bop_cat {t : TypeId} {a b r : ByteArray} (h : catO a b = some r) : bop P t .add (.string a) (.string b) = some (.string r) := by
 unfold catO at h; unfold bop
 split at h
 ·next h1 => simp only [h1, if_true]; cases h; rfl
 ·cases h
def bAnd (k : IntKind) (a b : Int) : Int := k.wrap ((BitVec.ofInt k.bits a &&& BitVec.ofInt k.bits b).toNat)
def bOr (k : IntKind) (a b : Int) : Int := k.wrap ((BitVec.ofInt k.bits a ||| BitVec.ofInt k.bits b).toNat)
def bXor (k : IntKind) (a b : Int) : Int := k.wrap ((BitVec.ofInt k.bits a ^^^ BitVec.ofInt k.bits b).toNat)
def bShl (k : IntKind) (a b : Int) : Int := k.wrap (a * 2 ^ (min b.toNat k.bits))
def bShr (k : IntKind) (a b : Int) : Int := a.fdiv (2 ^ (min b.toNat k.bits))
theorem bop_and {t : TypeId} {k : IntKind} {a b : Int} : bop P t .and (.int k a) (.int k b) = some (.int k (bAnd k a b)) := by simp [bop, bAnd]
theorem bop_or {t : TypeId} {k : IntKind} {a b : Int} : bop P t .or (.int k a) (.int k b) = some (.int k (bOr k a b)) := by simp [bop, bOr]
theorem bop_xor {t : TypeId} {k : IntKind} {a b : Int} : bop P t .xor (.int k a) (.int k b) = some (.int k (bXor k a b)) := by simp [bop, bXor]
theorem bop_shlO {t : TypeId} {k k' : IntKind} {a b : Int} {u : Unit} (h : must (decide (0 ≤ b)) = some u) : bop P t .shl (.int k a) (.int k' b) = some (.int k (bShl k a b)) := by
 have : 0 ≤ b := of_decide_eq_true (must_some h)
 simp [bop, bShl, this]
theorem bop_shrO {t : TypeId} {k k' : IntKind} {a b : Int} {u : Unit} (h : must (decide (0 ≤ b)) = some u) : bop P t .shr (.int k a) (.int k' b) = some (.int k (bShr k a b)) := by
 have : 0 ≤ b := of_decide_eq_true (must_some h)
 simp [bop, bShr, this]
theorem must_ne {a : Int} {u : Unit} (h : must (a != 0) = some u) : a ≠ 0 := by have := must_some h; simpa using this
theorem inO_accD {rl : List Nat} {m o n : Nat} {xs : List (List D)} : inO rl m σ o (accO n (xs.map (·.map .d))) = (xs ≠ [] → σ o = some ⟨n, xs.map (·.map .d)⟩) := by
 rw [inO_acc, renRows_data]
 refine propext ⟨fun h k => (h (by simpa using k)).1, fun h k => ⟨h (by simpa using k), okRows_data⟩⟩
theorem accO_eq {n : Nat} {xs : List (List D)} : (accO n (xs.map (·.map V.d)) = some ⟨n, xs.map (·.map V.d)⟩) = (xs ≠ []) := by
 unfold accO; split
 ·next h =>
   have : xs = [] := by simpa using h
   subst this; simp
 ·next h =>
   have : xs ≠ [] := by simpa using h
   simp [this]
theorem map_ne {β : Type} {f : β → List D} {l : List β} : (l.map f ≠ []) = (l ≠ []) := by simp
theorem appG {β : Type} {n byt o id : Nat} {z : List V} {sq : Bool} {y : V} {f : β → List D} {l r v : List β} {L : V → Heap → Prop} (hx : appO byt l r = some v) (hsq : sq = true) (hσ : σ o = accO n ((l.map f).map (·.map .d))) (h5 : srcRows σ y = some ((r.map f).map (·.map .d)))
  (h6 : ∀ x ∈ r, (f x).length = n) (hne : r ≠ []) (k : L (accV id n ((v.map f).map (·.map .d))) (upd (del σ o) id (accO n ((v.map f).map (·.map .d))))) : appK (some (n, byt, z)) sq σ id (accV o n ((l.map f).map (·.map .d))) y L := by
 obtain ⟨hb, rfl⟩ := appO_some hx
 have e : ((l ++ r).map f).map (·.map V.d) = (l.map f).map (·.map V.d) ++ (r.map f).map (·.map V.d) := by simp
 rw [e] at k
 refine app_acc hsq hσ h5 (by simpa using hne) (fun row hr => ?_) rowsOne_data (by simpa using hb) ?_
 ·obtain ⟨q, hq, rfl⟩ := List.mem_map.1 hr
  obtain ⟨x, hx, rfl⟩ := List.mem_map.1 hq
  simpa using h6 x hx
 ·rwa [accO_some (by simp [hne])] at k
theorem appN {β : Type} {n byt id : Nat} {z : List V} {sq : Bool} {y : V} {f : β → List D} {r v : List β} {L : V → Heap → Prop} (hx : appO byt [] r = some v) (hsq : sq = true) (_ : True) (h5 : srcRows σ y = some ((r.map f).map (·.map .d)))
  (h6 : ∀ x ∈ r, (f x).length = n) (hne : r ≠ []) (k : L (accV id n ((v.map f).map (·.map .d))) (upd σ id (accO n ((v.map f).map (·.map .d))))) : appK (some (n, byt, z)) sq σ id (.d (.val (.slice none 0 0))) y L := by
 obtain ⟨hb, rfl⟩ := appO_some hx
 refine app_own hsq h5 (by simpa using hne) (fun row hr => ?_) (by simpa using hb) ?_
 ·obtain ⟨q, hq, rfl⟩ := List.mem_map.1 hr
  obtain ⟨x, hx, rfl⟩ := List.mem_map.1 hq
  simpa using h6 x hx
 ·rw [accO_some (by simp [hne]), accV_msl (by simp [hne])] at k
  simpa using k
end
/-! ### Fields of the project's data -/
def NodeA.op : NodeA → Int | .mk o _ _ _ => o
def NodeA.name : NodeA → ByteArray | .mk _ n _ _ => n
def NodeA.num : NodeA → RatA | .mk _ _ r _ => r
theorem NodeA.enc_eta (x : NodeA) : x.enc = [.val (.int .i64 x.op), .val (.string x.name), .val (.bool x.num.neg), slD u32V x.num.num, slD u32V x.num.den, slD NodeA.enc x.kids] := by
 cases x; rw [NodeA.enc_mk]; rfl
theorem RatA.enc_eta (x : RatA) : x.enc = [.val (.bool x.neg), slD u32V x.num, slD u32V x.den] := rfl
theorem NodeA.op_mk {o : Int} {n : ByteArray} {r : RatA} {k : List NodeA} : (NodeA.mk o n r k).op = o := nrfl rfl
theorem NodeA.name_mk {o : Int} {n : ByteArray} {r : RatA} {k : List NodeA} : (NodeA.mk o n r k).name = n := nrfl rfl
theorem NodeA.num_mk {o : Int} {n : ByteArray} {r : RatA} {k : List NodeA} : (NodeA.mk o n r k).num = r := nrfl rfl
theorem NodeA.kids_mk {o : Int} {n : ByteArray} {r : RatA} {k : List NodeA} : (NodeA.mk o n r k).kids = k := nrfl rfl
end Go.Iso
namespace Go.Iso
open Go Go.RowKit
set_option linter.unusedSimpArgs false
set_option linter.unusedVariables false
def ixL : List Nat → Nat → Nat
 | [], _ => 0
 | a :: l, o => if o = a then 0 else ixL l o + 1
def inL : List Nat → Nat → Prop
 | [], _ => False
 | a :: l, o => if o = a then True else inL l o
def kpV (rl : List Nat) (v : V) : V := v.ren (ixL rl)
def kpR (rl : List Nat) : List V → List V
 | [] => []
 | v :: l => kpV rl v :: kpR rl l
def kpRs (rl : List Nat) : List (List V) → List (List V)
 | [] => []
 | r :: l => kpR rl r :: kpRs rl l
def kpF (rl : List Nat) (fr : Nat → V) : List Nat → List (Nat × V)
 | [] => []
 | t :: ks => (t, kpV rl (fr t)) :: kpF rl fr ks
def kpO (rl : List Nat) : Option Own → Option Own
 | none => none
 | some y => some ⟨y.k, kpRs rl y.rows⟩
def kpH (rl : List Nat) (σ : Heap) : List Nat → List (Option Own)
 | [] => []
 | o :: l => kpO rl (σ o) :: kpH rl σ l
def okKF (rl : List Nat) (fr : Nat → V) : List Nat → Prop
 | [] => True
 | t :: ks => (fr t).refs (inL rl) ∧ okKF rl fr ks
def okKRs (rl : List Nat) : List (List V) → Prop
 | [] => True
 | r :: l => V.refsL (inL rl) r ∧ okKRs rl l
def okKO (rl : List Nat) : Option Own → Prop
 | none => True
 | some y => okKRs rl y.rows
def okKH (rl : List Nat) (σ : Heap) : List Nat → Prop
 | [] => True
 | o :: l => okKO rl (σ o) ∧ okKH rl σ l
theorem ixL_nil {o : Nat} : ixL [] o = 0 := nrfl rfl
theorem ixL_cons {a o : Nat} {l : List Nat} : ixL (a :: l) o = if o = a then 0 else ixL l o + 1 := nrfl rfl
theorem inL_nil {o : Nat} : inL [] o = False := nrfl rfl
theorem inL_cons {a o : Nat} {l : List Nat} : inL (a :: l) o = if o = a then True else inL l o := nrfl rfl
theorem kpR_nil {rl : List Nat} : kpR rl [] = [] := nrfl rfl
theorem kpR_cons {rl : List Nat} {v : V} {l : List V} : kpR rl (v :: l) = kpV rl v :: kpR rl l := nrfl rfl
theorem kpRs_nil {rl : List Nat} : kpRs rl [] = [] := nrfl rfl
theorem kpRs_cons {rl : List Nat} {v : List V} {l : List (List V)} : kpRs rl (v :: l) = kpR rl v :: kpRs rl l := nrfl rfl
theorem kpF_nil {rl : List Nat} {fr : Nat → V} : kpF rl fr [] = [] := nrfl rfl
theorem kpF_cons {rl : List Nat} {fr : Nat → V} {t : Nat} {l : List Nat} : kpF rl fr (t :: l) = (t, kpV rl (fr t)) :: kpF rl fr l := nrfl rfl
theorem kpO_none {rl : List Nat} : kpO rl none = none := nrfl rfl
theorem kpO_some {rl : List Nat} {y : Own} : kpO rl (some y) = some ⟨y.k, kpRs rl y.rows⟩ := nrfl rfl
theorem kpH_nil {rl : List Nat} {σ : Heap} : kpH rl σ [] = [] := nrfl rfl
theorem kpH_cons {rl : List Nat} {σ : Heap} {t : Nat} {l : List Nat} : kpH rl σ (t :: l) = kpO rl (σ t) :: kpH rl σ l := nrfl rfl
theorem okKF_nil {rl : List Nat} {fr : Nat → V} : okKF rl fr [] = True := nrfl rfl
theorem okKF_cons {rl : List Nat} {fr : Nat → V} {t : Nat} {l : List Nat} : okKF rl fr (t :: l) = ((fr t).refs (inL rl) ∧ okKF rl fr l) := nrfl rfl
theorem okKRs_nil {rl : List Nat} : okKRs rl [] = True := nrfl rfl
theorem okKRs_cons {rl : List Nat} {v : List V} {l : List (List V)} : okKRs rl (v :: l) = (V.refsL (inL rl) v ∧ okKRs rl l) := nrfl rfl
theorem okKO_none {rl : List Nat} : okKO rl none = True := nrfl rfl
theorem okKO_some {rl : List Nat} {y : Own} : okKO rl (some y) = okKRs rl y.rows := nrfl rfl
theorem okKH_nil {rl : List Nat} {σ : Heap} : okKH rl σ [] = True := nrfl rfl
theorem okKH_cons {rl : List Nat} {σ : Heap} {t : Nat} {l : List Nat} : okKH rl σ (t :: l) = (okKO rl (σ t) ∧ okKH rl σ l) := nrfl rfl
theorem kpR_map {rl : List Nat} : ∀ l : List V, kpR rl l = l.map (kpV rl)
 | [] => rfl
 | v :: l => by rw [kpR, kpR_map l]; rfl
theorem kpV_any {rl : List Nat} : kpV rl .any = .any := by simp [kpV, V.ren]
theorem kpV_d {rl : List Nat} {x : D} : kpV rl (.d x) = .d x := by simp [kpV, V.ren]
theorem kpV_iptr {rl : List Nat} {x : List D} : kpV rl (.iptr x) = .iptr x := by simp [kpV, V.ren]
theorem kpV_ptr {rl : List Nat} {o k i j : Nat} : kpV rl (.ptr o k i j) = .ptr (ixL rl o) k i j := by simp [kpV, V.ren]
theorem kpV_mp {rl : List Nat} {o : Nat} : kpV rl (.mp o) = .mp (ixL rl o) := by simp [kpV, V.ren]
theorem kpV_ifc {rl : List Nat} {t : TypeId} {v : V} : kpV rl (.ifc t v) = .ifc t (kpV rl v) := by simp [kpV, V.ren]
theorem kpV_msl {rl : List Nat} {o k i j : Nat} : kpV rl (.msl o k i j) = .msl (ixL rl o) k i j := by simp [kpV, V.ren]
theorem kpV_agg {rl : List Nat} {l : List V} : kpV rl (.agg l) = .agg (kpR rl l) := by rw [kpV, V.ren, V.renL_map, kpR_map]; rfl
theorem kpV_tup {rl : List Nat} {l : List V} : kpV rl (.tup l) = .tup (kpR rl l) := by rw [kpV, V.ren, V.renL_map, kpR_map]; rfl
theorem kpV_fn {rl : List Nat} {f : FuncId} {l : List V} : kpV rl (.fn f l) = .fn f (kpR rl l) := by rw [kpV, V.ren, V.renL_map, kpR_map]; rfl
theorem kpV_nilV {α : Type} {f : α → List D} {o : Option (List α)} {rl : List Nat} : kpV rl (nilV f o) = nilV f o := by cases o <;> simp [nilV, kpV_d]
theorem ixL_in {o : Nat} : ∀ {rl : List Nat}, inL rl o → rl.getD (ixL rl o) 0 = o ∧ ixL rl o < rl.length
 | [], h => h.elim
 | a :: l, h => by
  rw [inL_cons] at h
  rw [ixL_cons]
  by_cases e : o = a
  ·rw [if_pos e]; exact ⟨by simp [e], by simp⟩
  ·rw [if_neg e] at h ⊢
   obtain ⟨h1, h2⟩ := ixL_in h
   exact ⟨by simpa using h1, by simp; exact h2⟩
mutual
theorem kp_ok {rl : List Nat} : ∀ v : V, v.refs (inL rl) → renV rl (kpV rl v) = v ∧ (kpV rl v).refs (· < rl.length)
 | .any, _ => by rw [kpV_any]; exact ⟨renV_any, by simp [V.refs]⟩
 | .d x, _ => by rw [kpV_d]; exact ⟨renV_d, by simp [V.refs]⟩
 | .iptr x, _ => by rw [kpV_iptr]; exact ⟨renV_iptr, by simp [V.refs]⟩
 | .ptr o k i j, h => by
  obtain ⟨h1, h2⟩ := ixL_in (rl := rl) (o := o) (by simpa [V.refs] using h)
  rw [kpV_ptr, renV_ptr, h1]; exact ⟨rfl, by simpa [V.refs] using h2⟩
 | .mp o, h => by
  obtain ⟨h1, h2⟩ := ixL_in (rl := rl) (o := o) (by simpa [V.refs] using h)
  rw [kpV_mp, renV_mp, h1]; exact ⟨rfl, by simpa [V.refs] using h2⟩
 | .ifc t v, h => by
  obtain ⟨h1, h2⟩ := kp_ok v (by simpa [V.refs] using h)
  rw [kpV_ifc, renV_ifc, h1]; exact ⟨rfl, by simpa [V.refs] using h2⟩
 | .msl o k i j, h => by
  obtain ⟨h1, h2⟩ := ixL_in (rl := rl) (o := o) (by simpa [V.refs] using h)
  rw [kpV_msl, renV_msl, h1]; exact ⟨rfl, by simpa [V.refs] using h2⟩
 | .agg cs, h => by
  obtain ⟨h1, h2⟩ := kp_okL cs (by simpa [V.refs] using h)
  rw [kpV_agg, renV_agg, h1]; exact ⟨rfl, by simpa [V.refs] using h2⟩
 | .tup cs, h => by
  obtain ⟨h1, h2⟩ := kp_okL cs (by simpa [V.refs] using h)
  rw [kpV_tup, renV_tup, h1]; exact ⟨rfl, by simpa [V.refs] using h2⟩
 | .fn f cs, h => by
  obtain ⟨h1, h2⟩ := kp_okL cs (by simpa [V.refs] using h)
  rw [kpV_fn, renV_fn, h1]; exact ⟨rfl, by simpa [V.refs] using h2⟩
theorem kp_okL {rl : List Nat} : ∀ l : List V, V.refsL (inL rl) l → renRow rl (kpR rl l) = l ∧ V.refsL (· < rl.length) (kpR rl l)
 | [], _ => ⟨rfl, by simp [kpR, V.refsL]⟩
 | v :: l, h => by
  have h : v.refs (inL rl) ∧ V.refsL (inL rl) l := by simpa [V.refsL] using h
  obtain ⟨h1, h2⟩ := kp_ok v h.1
  obtain ⟨k1, k2⟩ := kp_okL l h.2
  rw [kpR_cons, renRow, h1, k1]
  exact ⟨rfl, by simpa [V.refsL] using ⟨h2, k2⟩⟩
end
theorem kp_okRs {rl : List Nat} : ∀ l : List (List V), okKRs rl l → renRows rl (kpRs rl l) = l ∧ okRows rl.length (kpRs rl l)
 | [], _ => ⟨rfl, fun r h => (by cases h)⟩
 | r :: l, h => by
  obtain ⟨h1, h2⟩ := kp_okL r h.1
  obtain ⟨k1, k2⟩ := kp_okRs l h.2
  rw [kpRs_cons, renRows, h1, k1]
  refine ⟨rfl, fun x hx => ?_⟩
  rcases List.mem_cons.1 hx with rfl | hx
  ·intro v hv
   obtain ⟨i, hi, rfl⟩ := List.getElem_of_mem hv
   exact V.refsL_get h2 i hi
  ·exact k2 x hx
theorem kpH_len {rl : List Nat} {σ : Heap} : ∀ l : List Nat, (kpH rl σ l).length = l.length
 | [] => rfl
 | o :: l => by rw [kpH_cons, List.length_cons, kpH_len l, List.length_cons]
section
variable {P : Program} {N B : Nat} {Q : Exit → St → Prop} {st : St} {σ : Heap} {fr : Nat → V}
theorem kp_F {rl : List Nat} : ∀ ks : List Nat, okKF rl fr ks → okR rl rl.length fr (kpF rl fr ks)
 | [], _ => trivial
 | t :: ks, h => ⟨(kp_ok _ h.1).1.symm, (kp_ok _ h.1).2, kp_F ks h.2⟩
theorem kp_H {rl : List Nat} : ∀ l : List Nat, okKH rl σ l → inR rl rl.length σ l (kpH rl σ l)
 | [], _ => trivial
 | o :: l, h => by
  refine ⟨fun y hy => ?_, kp_H l h.2⟩
  have h1 := h.1
  revert hy h1
  cases hσ : σ o with
  | none => intro hy; cases hy
  | some x =>
   intro hy h1
   obtain rfl := Option.some.inj hy
   obtain ⟨k1, k2⟩ := kp_okRs x.rows h1
   rw [k1]; exact ⟨rfl, k2⟩
theorem kp_round {rl ks : List Nat} (h : rl.Nodup ∧ rangeB rl B ∧ B ≤ rl.length ∧ okKF rl st.fr ks ∧ okKH rl st.σ rl) : RoundC B rl st (kpF rl st.fr ks) (kpH rl st.σ rl) :=
 ⟨h.1, h.2.1, by rw [kpH_len]; exact h.2.2.1, by rw [kpH_len]; exact kp_F ks h.2.2.2.1, by rw [kpH_len]; exact kp_H rl h.2.2.2.2⟩
attribute [go_sem] ixL_nil ixL_cons inL_nil inL_cons kpR_nil kpR_cons kpRs_nil kpRs_cons
attribute [go_sem] kpF_nil kpF_cons kpO_none kpO_some kpH_nil kpH_cons okKF_nil okKF_cons
attribute [go_sem] okKRs_nil okKRs_cons okKO_none okKO_some okKH_nil okKH_cons
attribute [go_sem] kpV_any kpV_d kpV_iptr kpV_ptr kpV_msl kpV_mp kpV_agg kpV_tup kpV_fn kpV_nilV
theorem AW.kp [Glb] {c : Code} {l : List (Nat × V)} {h : List (Option Own)} (rl ks : List Nat) (k : AW P N B c Q (mkR l h))
  (hr : (rl.Nodup ∧ rangeB rl B ∧ B ≤ rl.length ∧ okKF rl st.fr ks ∧ okKH rl st.σ rl) ∧ kpF rl st.fr ks = l ∧ kpH rl st.σ rl = h := by (simp only [go_sem, Nat.reduceEqDiff, Nat.reduceAdd, Nat.reduceSub, Nat.reduceMul, Nat.reduceLeDiff, Nat.reduceLT, Nat.reduceBEq, reduceIte]; exact ⟨rfl, rfl⟩)) : AW P N B c Q st := by
 obtain ⟨h1, rfl, rfl⟩ := hr
 exact AW.round (kp_round h1) k
theorem AW.cu [Glb] {c : Code} (rl : List Nat) (l : List (Nat × V)) (h : List (Option Own)) (k : AW P N B c Q (mkR l h)) (hr : RoundC B rl st l h := by (simp only [go_sem, Nat.reduceEqDiff, Nat.reduceAdd, Nat.reduceSub, Nat.reduceMul, Nat.reduceLeDiff, Nat.reduceLT, Nat.reduceBEq, reduceIte])) : AW P N B c Q st := AW.round hr k
theorem nz {p q : Prop} (k : q) (e : p = q := by ((try simp only [go_sem, Nat.reduceEqDiff, Nat.reduceAdd, Nat.reduceSub, Nat.reduceMul, Nat.reduceLeDiff, Nat.reduceLT, Nat.reduceBEq, reduceIte]); exact rfl)) : p := e ▸ k
theorem nx {p q : Prop} (k : p) (e : p = q := by ((try simp only [NodeA.enc_eta, RatA.enc_eta, NodeA.op_mk, NodeA.name_mk, NodeA.num_mk, NodeA.kids_mk, aggV, i64V, u32V, strV, List.map_cons, List.map_nil]); exact rfl)) : q := e ▸ k
theorem AW.op [Glb] (hm : P.follows .mixedOrders = true) {id n : Nat} {l : List Oper} {dr : Bool} {y : Code} {G : Prop} (k : G) (hok : okB N (.region id l.toArray dr) = true := by kernel_rfl)
  (e : numK (n + l.length) (Later (Hold fun M => vcOps P dr n M l.toArray l 0 fr σ (Later (Hold fun fr σ => thenQ (fun s => AW P N B y Q s) Q .normal ⟨fr, σ, M⟩)))) = G := by ((try simp only [go_sem, Nat.reduceEqDiff, Nat.reduceAdd, Nat.reduceSub, Nat.reduceMul, Nat.reduceLeDiff, Nat.reduceLT, Nat.reduceBEq, reduceIte]); exact rfl)) : AW P N B (.seq (.region id l.toArray dr) y) Q ⟨fr, σ, n⟩ :=
 AW.one (AW.reg hm hok (e ▸ k))
theorem AW.rg [Glb] (hm : P.follows .mixedOrders = true) {id n : Nat} {l : List Oper} {dr : Bool} {G : Prop} (k : G) (hok : okB N (.region id l.toArray dr) = true := by kernel_rfl)
  (e : numK (n + l.length) (Later (Hold fun M => vcOps P dr n M l.toArray l 0 fr σ (Later (Hold fun fr σ => Q .normal ⟨fr, σ, M⟩)))) = G := by ((try simp only [go_sem, Nat.reduceEqDiff, Nat.reduceAdd, Nat.reduceSub, Nat.reduceMul, Nat.reduceLeDiff, Nat.reduceLT, Nat.reduceBEq, reduceIte]); exact rfl)) : AW P N B (.region id l.toArray dr) Q ⟨fr, σ, n⟩ :=
 AW.reg hm hok (e ▸ k)
theorem AW.sk [Glb] {G : Prop} (k : G) (e : Q .normal st = G := by ((try simp only [go_sem, Nat.reduceEqDiff, Nat.reduceAdd, Nat.reduceSub, Nat.reduceMul, Nat.reduceLeDiff, Nat.reduceLT, Nat.reduceBEq, reduceIte]); exact rfl)) : AW P N B .skip Q st := AW.skip (e ▸ k)
theorem AW.ex [Glb] {id : Nat} {G : Prop} (k : G) (e : Q (.exit id) st = G := by ((try simp only [go_sem, Nat.reduceEqDiff, Nat.reduceAdd, Nat.reduceSub, Nat.reduceMul, Nat.reduceLeDiff, Nat.reduceLT, Nat.reduceBEq, reduceIte]); exact rfl)) : AW P N B (.exit id) Q st := AW.exit (e ▸ k)
theorem AW.ts [Glb] {c : Operand} {x y : Code} (t : Bool) (h1 : t = true → AW P N B x Q st) (h2 : t = false → AW P N B y Q st) (hc : evO st.fr c = .d (.val (.bool t)) := by (simp only [go_sem, Nat.reduceEqDiff, Nat.reduceAdd, Nat.reduceSub, Nat.reduceMul, Nat.reduceLeDiff, Nat.reduceLT, Nat.reduceBEq, reduceIte])) : AW P N B (.cond c x y) Q st := AW.cond hc h1 h2
theorem callP [Glb] {f : FuncId} {caps args : List V} {v : V} {L : V → Heap → Prop} {id : Nat} {G : Prop} (h : Cn P f (args ++ caps) v) (k : G)
  (hr : V.refsL NoRef (args ++ caps) := by (simp only [go_sem, Nat.reduceEqDiff, Nat.reduceAdd, Nat.reduceSub, Nat.reduceMul, Nat.reduceLeDiff, Nat.reduceLT, Nat.reduceBEq, reduceIte]))
  (e : L v σ = G := by ((try simp only [go_sem, Nat.reduceEqDiff, Nat.reduceAdd, Nat.reduceSub, Nat.reduceMul, Nat.reduceLeDiff, Nat.reduceLT, Nat.reduceBEq, reduceIte]); exact rfl)) : callK P (.fn f caps) args σ N id L := callK_pure h hr (e ▸ k)
theorem JoinQ.ar {S : Type} {l : S → List (Nat × V)} {h : S → List (Option Own)} {J : S → Prop} {s : St} (a : S) (rl : List Nat) (hj : J a) (hr : RoundC B rl s (l a) (h a) := by (simp only [go_sem, Nat.reduceEqDiff, Nat.reduceAdd, Nat.reduceSub, Nat.reduceMul, Nat.reduceLeDiff, Nat.reduceLT, Nat.reduceBEq, reduceIte])) : JoinQ B l h J s := JoinQ.mk a rl hj hr
theorem NextQ.ar {S R : Type} {l : S → List (Nat × V)} {h : S → List (Option Own)} {F : S → Option R} {o : R} {s : St} (a : S) (rl : List Nat) (hj : F a = some o) (hr : RoundC B rl s (l a) (h a) := by (simp only [go_sem, Nat.reduceEqDiff, Nat.reduceAdd, Nat.reduceSub, Nat.reduceMul, Nat.reduceLeDiff, Nat.reduceLT, Nat.reduceBEq, reduceIte])) : NextQ B l h F o s := NextQ.mk a rl hj hr
end
end Go.Iso
namespace Go.Iso
open Go Go.RowKit
set_option linter.unusedVariables false
theorem ob {α β : Type} {o : Option α} {f : α → Option β} (x : α) {r : Option β} (h : o = some x) (k : f x = r) : o.bind f = r := by rw [h]; exact k
theorem w64 {z : Int} (h1 : -9223372036854775808 ≤ z) (h2 : z ≤ 9223372036854775807) : IntKind.wrap .i64 z = z := wrap_i64 h1 h2
theorem w64s {k : Nat} (h : k < 9223372036854775807) : IntKind.wrap .i64 ((k : Int) + 1) = ((k + 1 : Nat) : Int) := by rw [w64 (by omega) (by omega)]; rfl
theorem scanG {S T R : Type} (n : Nat) (σ : Nat → S) (p : Nat → Bool) (r : R) (e : T) {f : (S → Option (Out T R)) → S → Option (Out T R)}
  (h1 : ∀ g i, i < n → f g (σ i) = if p i then g (σ (i + 1)) else some (.out r)) (h2 : ∀ g, f g (σ n) = some (.go e)) {K : Nat} (hK : n < K) {s0 : S} (h0 : s0 = σ 0) :
  iter K f s0 = some (if (List.range n).all p then .go e else .out r) := by
 subst h0
 have key : ∀ (d i K : Nat), n - i = d → i ≤ n → d < K → iter K f (σ i) = some (if ((List.range n).drop i).all p then .go e else .out r) := by
  intro d
  induction d with
  | zero =>
   intro i K hd hi hK
   obtain ⟨k, rfl⟩ : ∃ k, K = k + 1 := ⟨K - 1, by omega⟩
   obtain rfl : i = n := by omega
   rw [iter_succ, h2, List.drop_eq_nil_of_le (by simp)]; rfl
  | succ d ih =>
   intro i K hd hi hK
   obtain ⟨k, rfl⟩ : ∃ k, K = k + 1 := ⟨K - 1, by omega⟩
   have hl : i < (List.range n).length := by simp; omega
   rw [iter_succ, h1 _ i (by simpa using hl), List.drop_eq_getElem_cons hl, List.all_cons]
   simp only [List.getElem_range]
   cases hp : p i with
   | true => rw [if_pos rfl, ih (i + 1) k (by omega) (by simp at hl; omega) (by omega)]; simp
   | false => simp
 exact key n 0 K (by simp) (Nat.zero_le _) hK
theorem foldG {S R : Type} (n : Nat) (σ : Nat → S) (e : R) {f : (S → Option R) → S → Option R}
  (h1 : ∀ g i, i < n → f g (σ i) = g (σ (i + 1))) (h2 : ∀ g, f g (σ n) = some e) {K : Nat} (hK : n < K) {s0 : S} (h0 : s0 = σ 0) : iter K f s0 = some e := by
 subst h0
 have key : ∀ (d i K : Nat), n - i = d → i ≤ n → d < K → iter K f (σ i) = some e := by
  intro d
  induction d with
  | zero =>
   intro i K hd hi hK
   obtain ⟨k, rfl⟩ : ∃ k, K = k + 1 := ⟨K - 1, by omega⟩
   obtain rfl : i = n := by omega
   rw [iter_succ, h2]
  | succ d ih =>
   intro i K hd hi hK
   obtain ⟨k, rfl⟩ : ∃ k, K = k + 1 := ⟨K - 1, by omega⟩
   rw [iter_succ, h1 _ i (by omega), ih (i + 1) k (by omega) (by omega) (by omega)]
 exact key n 0 K (by simp) (Nat.zero_le _) hK
theorem loopE {S O : Type} (J : Nat → S → Prop) (Post : Nat → S → O → Prop) {f : (S → Option O) → S → Option O} (n : Nat)
  (h1 : ∀ g i s, i < n → J i s → (∀ s', J (i + 1) s' → ∃ o, g s' = some o ∧ Post (i + 1) s' o) → ∃ o, f g s = some o ∧ Post i s o)
  (h2 : ∀ g s, J n s → ∃ o, f g s = some o ∧ Post n s o) {K : Nat} (i : Nat) (s : S) (hj : J i s) (hi : i ≤ n) (hK : n - i < K) : ∃ o, iter K f s = some o ∧ Post i s o := by
 induction K generalizing i s with
 | zero => omega
 | succ K ih =>
  rw [iter_succ]
  by_cases h : i = n
  ·subst h; exact h2 _ s hj
  ·exact h1 _ i s (by omega) hj fun s' hs' => ih (i + 1) s' hs' (by omega) (by omega)
theorem ex_ob {α β : Type} {e : Option α} {f : α → Option β} {W : β → Prop} (h : ∃ o, e = some o ∧ ∃ r, f o = some r ∧ W r) : ∃ r, e.bind f = some r ∧ W r := by
 obtain ⟨o, rfl, r, h1, h2⟩ := h; exact ⟨r, h1, h2⟩
theorem range_all {α : Type} (l : List α) (q : α → Bool) : ((List.range l.length).all fun i => (l[i]?).all q) = l.all q := by
 rw [Bool.eq_iff_iff]
 simp only [List.all_eq_true, List.mem_range]
 constructor
 ·intro h x hx
  obtain ⟨i, hi, rfl⟩ := List.mem_iff_getElem.1 hx
  have := h i hi
  rw [List.getElem?_eq_getElem hi] at this; simpa using this
 ·intro h i hi
  rw [List.getElem?_eq_getElem hi]; simpa using h _ (List.getElem_mem hi)
/-! ### How total models are reckoned -/
section
variable {α β : Type} {a b : Bool}
theorem andO : (if a then some b else some false) = some (a && b) := by cases a <;> rfl
theorem orO : (if a then some true else some b) = some (a || b) := by cases a <;> rfl
theorem orO' : (if a then some a else some b) = some (a || b) := by cases a <;> rfl
theorem ifOI {x y : Int} : (if a then some x else some y) = some (if a then x else y) := by cases a <;> rfl
theorem ifOS {x y : ByteArray} : (if a then some x else some y) = some (if a then x else y) := by cases a <;> rfl
theorem ifOP {x y : α × β} : (if a then some x else some y) = some (if a then x else y) := by cases a <;> rfl
theorem ifOO {x y : Out α β} : (if a then some x else some y) = some (if a then x else y) := by cases a <;> rfl
theorem outM_eq {S : Type} {r : α} : (outM (some r) : Option (Out S α)) = some (.out r) := rfl
theorem finIf {S : Type} {f : S → Option α} {r : α} {s : S} : Out.fin f (if a then .out r else .go s) = if a then some r else f s := by cases a <;> rfl
theorem finIf' {S : Type} {f : S → Option α} {r : α} {s : S} : Out.fin f (if a then .go s else .out r) = if a then f s else some r := by cases a <;> rfl
theorem int_ne0 {n : Nat} (h : n ≠ 0) : ((n : Int) == 0) = false := by rw [beq_eq_false_iff_ne]; omega
theorem int_eq0 {n : Nat} (h : n = 0) : ((n : Int) == 0) = true := by rw [beq_iff_eq]; omega
end
/-! ### Trees -/
def NodeA.size : NodeA → Nat
 | .mk _ _ _ kids => 1 + (kids.attach.map fun ⟨k, _⟩ => k.size).sum
termination_by n => SizeOf.sizeOf n
decreasing_by exact NodeA.size_kid (by assumption)
def NodeA.lev : NodeA → Nat
 | .mk _ _ _ kids => 1 + (kids.attach.map fun ⟨k, _⟩ => k.lev).foldl max 0
termination_by n => SizeOf.sizeOf n
decreasing_by exact NodeA.size_kid (by assumption)
theorem NodeA.size_mk {o : Int} {n : ByteArray} {r : RatA} {ks : List NodeA} : (NodeA.mk o n r ks).size = 1 + (ks.map NodeA.size).sum := by
 rw [NodeA.size]; simp
theorem NodeA.lev_mk {o : Int} {n : ByteArray} {r : RatA} {ks : List NodeA} : (NodeA.mk o n r ks).lev = 1 + (ks.map NodeA.lev).foldl max 0 := by
 rw [NodeA.lev]; simp
theorem sum_mem {l : List Nat} {x : Nat} (h : x ∈ l) : x ≤ l.sum := by
 induction l with
 | nil => cases h
 | cons y r ih =>
   rcases List.mem_cons.1 h with rfl | h
   ·simp
   ·have := ih h; simp; omega
theorem NodeA.size_pos (n : NodeA) : 0 < n.size := by cases n; rw [NodeA.size_mk]; omega
theorem NodeA.size_lt {n k : NodeA} (h : k ∈ n.kids) : k.size < n.size := by
 cases n with | mk o m r ks => rw [NodeA.size_mk]; have := sum_mem (List.mem_map_of_mem (f := NodeA.size) (show k ∈ ks from h)); omega
theorem sum_ge_len {l : List NodeA} : l.length ≤ (l.map NodeA.size).sum := by
 induction l with
 | nil => simp
 | cons x r ih => have := x.size_pos; simp; omega
theorem NodeA.kids_lt (n : NodeA) : n.kids.length < n.size := by
 cases n with | mk o m r ks => rw [NodeA.size_mk]; have := sum_ge_len (l := ks); show ks.length < _; omega
theorem foldl_max (l : List Nat) (a : Nat) : l.foldl max a = max a (l.foldl max 0) := by
 induction l generalizing a with
 | nil => simp
 | cons x r ih => rw [List.foldl_cons, List.foldl_cons, ih, ih (max 0 x)]; omega
theorem NodeA.lev_le_size : ∀ n : NodeA, n.lev ≤ n.size
 | .mk o m r ks => by
  rw [NodeA.lev_mk, NodeA.size_mk]
  have : ∀ l : List NodeA, (∀ x ∈ l, x ∈ ks) → (l.map NodeA.lev).foldl max 0 ≤ (l.map NodeA.size).sum := by
   intro l
   induction l with
   | nil => intro _; simp
   | cons x l ih =>
    intro h
    have h1 := NodeA.lev_le_size x
    have h2 := ih fun y hy => h y (List.mem_cons_of_mem _ hy)
    rw [List.map_cons, List.map_cons, List.foldl_cons, foldl_max, List.sum_cons]; omega
  have := this ks fun x hx => hx
  omega
termination_by n => SizeOf.sizeOf n
decreasing_by exact NodeA.size_kid (h x (List.mem_cons_self ..))
theorem NodeA.ind {P : NodeA → Prop} (h : ∀ n : NodeA, (∀ k ∈ n.kids, P k) → P n) : ∀ n, P n
 | .mk o m r ks => h _ fun k hk => NodeA.ind h k
termination_by n => SizeOf.sizeOf n
decreasing_by exact NodeA.size_kid hk
def RatA.words (r : RatA) : Prop := (∀ x ∈ r.num, 0 ≤ x ∧ x < 4294967296) ∧ ∀ x ∈ r.den, 0 ≤ x ∧ x < 4294967296
def NodeA.words : NodeA → Prop
 | .mk _ _ r kids => r.words ∧ ∀ k (h : k ∈ kids), k.words
termination_by n => SizeOf.sizeOf n
decreasing_by exact NodeA.size_kid h
theorem NodeA.words_mk {o : Int} {n : ByteArray} {r : RatA} {ks : List NodeA} : (NodeA.mk o n r ks).words = (r.words ∧ ∀ k ∈ ks, k.words) := by
 rw [NodeA.words]
theorem NodeA.words_num {n : NodeA} (h : n.words) : n.num.words := by cases n; rw [NodeA.words_mk] at h; exact h.1
theorem NodeA.words_kid {n k : NodeA} (h : n.words) (hk : k ∈ n.kids) : k.words := by cases n; rw [NodeA.words_mk] at h; exact h.2 k hk
end Go.Iso
namespace Go.Iso
open Go Go.RowKit Go.ChangeShapes Go.WideShapes Go.ChangeAt
set_option linter.unusedVariables false
theorem maxLen_eq : maxLen = 9223372036854775807 := by decide
abbrev there (W : World) : Nat → Prop := fun b => b < W.heap.size
theorem cell_lt {W : World} {a : Addr} {c : Value} (h : W.cell? a = some c) : a.block < W.heap.size ∧ a.spot = none := by
 unfold World.cell? at h
 split at h
 ·next hb =>
  split at h
  ·cases h
  ·next hs =>
   refine ⟨?_, by simpa using hs⟩
   rcases Nat.lt_or_ge a.block W.heap.size with k | k
   ·exact k
   ·rw [Array.getElem?_eq_none k] at hb; cases hb
 ·cases h
theorem choose_list {α : Type} {Q : Nat → α → Prop} : ∀ n : Nat, (∀ i, i < n → ∃ a, Q i a) → ∃ l : List α, l.length = n ∧ ∀ i (h : i < l.length), Q i l[i]
 | 0, _ => ⟨[], rfl, fun i h => absurd h (Nat.not_lt_zero i)⟩
 | n + 1, h => by
  obtain ⟨l, h1, h2⟩ := choose_list n fun i hi => h i (by omega)
  obtain ⟨a, ha⟩ := h n (by omega)
  refine ⟨l ++ [a], by simp [h1], fun i hi => ?_⟩
  rcases Nat.lt_or_ge i l.length with k | k
  ·rw [List.getElem_append_left k]; exact h2 i k
  ·have : i = n := by simp at hi; omega
   subst this
   rw [List.getElem_append_right (by omega)]; simpa [h1] using ha
section
variable {H : Type} {enc : TypeId × Value → H} {P : Program} {W : World}
def RowRep (W : World) (ds : List D) (cs : List Value) : Prop := ds.length = cs.length ∧ ∀ j (hj : j < ds.length), RepD (there W) W ds[j] (cs.getD j undef)
theorem slice_rep {α : Type} (f : α → List D) {t e : TypeId} {s : Nat} (ht : P.underlying t = some (.slice e)) (hc : P.cellsOf e = s) (hs : 0 < s) (hf : ∀ a, (f a).length = s) (Q : α → DataW H → Prop)
  {fuel : Nat} {cs : List Value} {x : DataW H × List MemPlace} (sub : ∀ n cs' y, n < fuel → DataW.trod enc P W 0 (fun _ => true) true n e cs' = some y → ∃ a, RowRep W (f a) cs' ∧ Q a y.1)
  (h : DataW.trod enc P W 0 (fun _ => true) true fuel t cs = some x) :
  ∃ (l : List α) (c : Value), cs = [c] ∧ RepD (there W) W (slD f l) c ∧ ((x.1 = .nil ∧ l = []) ∨ ∃ ys rest, x.1 = .slice ys rest ∧ l.length = ys.length ∧ ∀ i (h1 : i < l.length) (h2 : i < ys.length), Q l[i] ys[i]) := by
 rcases DataW.trod_slice ht h with ⟨rfl, rfl⟩ | ⟨a, len, cap, elems, rest, n, hfu, rfl, rfl, hb, hl, hm, hlen, hel, _, _⟩
 ·exact ⟨[], _, rfl, .nil none 0, .inl ⟨rfl, rfl⟩⟩
 ·have each : ∀ i, i < len → ∃ a' : α, ∃ cs', W.cells? 0 (a.add (i * s)) s = some cs' ∧ RowRep W (f a') cs' ∧ ∀ h2 : i < (elems.map (·.1)).length, Q a' (elems.map (·.1))[i] := fun i hi => by
   have h1 := hel i hi
   rw [hc, List.getElem?_eq_getElem (by omega)] at h1
   obtain ⟨cs', h2, h3⟩ := Option.bind_eq_some_iff.1 h1
   obtain ⟨a', h4, h5⟩ := sub n cs' _ (by omega) h3
   exact ⟨a', cs', h2, h4, fun h6 => by simpa using h5⟩
  obtain ⟨l, h1, h2⟩ := choose_list len each
  refine ⟨l, _, rfl, ?_, .inr ⟨_, _, rfl, by simp [h1, hlen], fun i h3 h4 => ?_⟩⟩
  ·by_cases h0 : len = 0
   ·subst h0
    have : l = [] := List.eq_nil_of_length_eq_zero h1
    subst this
    exact .nil (some a) cap
   ·obtain ⟨c0, k1, _, _⟩ := h2 0 (by omega)
    obtain ⟨_, k2, k3⟩ := World.cells?_some k1
    have k4 := k3 0 hs
    obtain ⟨hb1, hb2⟩ := cell_lt (c := (c0.getD 0 undef)) (by simpa [List.getD_eq_getElem?_getD, List.getElem?_eq_getElem (show 0 < c0.length by omega)] using k4)
    have eb : ((a.add 0).add 0) = a := by simp [Addr.add]
    rw [eb] at hb1 hb2
    obtain ⟨b, off, spot⟩ := a
    simp only at hb1 hb2
    subst hb2
    have hg : ∀ i (hi : i < l.length), ∃ cs', W.cells? 0 (⟨b, off + i * s, none⟩ : Addr) s = some cs' ∧ RowRep W (f l[i]) cs' := fun i hi => by
     obtain ⟨cs', m1, m2, _⟩ := h2 i hi
     exact ⟨cs', by rw [← add_addr]; exact m1, m2⟩
    have hg' : ∃ F : Nat → List Value, ∀ i (hi : i < l.length), W.cells? 0 (⟨b, off + i * s, none⟩ : Addr) s = some (F i) ∧ RowRep W (f l[i]) (F i) := by
     refine ⟨fun i => if hi : i < l.length then (hg i hi).choose else [], fun i hi => ?_⟩
     simp only [hi, dite_true]
     exact (hg i hi).choose_spec
    obtain ⟨F, hF⟩ := hg'
    have hlm : (l.map f).length = len := by simp [h1]
    have := RepD.sl (I := there W) (w := W) b off cap s (l.map f) (fun i j => (F i).getD j undef) hb1 (by omega) (by rw [← maxLen_eq]; exact hm) (fun row hr => by
      obtain ⟨x, _, rfl⟩ := List.mem_map.1 hr; exact hf x) (fun i j hi hj => by
      have hi' : i < l.length := by simpa using hi
      obtain ⟨m1, m2⟩ := hF i hi'
      obtain ⟨_, m3, m4⟩ := World.cells?_some m1
      have hj' : j < s := by simp only [List.getElem_map, hf] at hj; exact hj
      have := m4 j hj'
      rw [add_addr] at this
      rw [cellAt, this]
      simp [List.getD_eq_getElem?_getD, List.getElem?_eq_getElem (show j < (F i).length by omega)]) (fun i j hi hj => by
      have hi' : i < l.length := by simpa using hi
      obtain ⟨m1, m2⟩ := hF i hi'
      simp only [List.getElem_map]
      exact m2.2 j (by simpa using hj))
    rw [hlm] at this
    exact this
  ·obtain ⟨_, _, _, k⟩ := h2 i h3
   exact k h4
theorem int_cell {t : TypeId} {k : IntKind} {n : Nat} {cs : List Value} {y : DataW H × List MemPlace} (ht : P.underlying t = some (.int k)) (h : DataW.trod enc P W 0 (fun _ => true) true n t cs = some y) :
  ∃ z : Int, RowRep W [D.val (.int k z)] cs ∧ (Lit.int k z).wf = true := by
 obtain ⟨z, rfl, _, hw⟩ := DataW.trod_int ht h
 exact ⟨z, ⟨rfl, fun j hj => by
  have : j = 0 := by simp at hj; omega
  subst this; exact .val _ rfl⟩, hw⟩
end
/-! ### Listed variables -/
end Go.Iso
