/- The abstract layer, part E: what must be shown of a region, in whatever order its operations are carried out. -/
import Derived.Test.YtngmfimpaembnaaGreatDoorIsoM
import Derived.Laws.BytesArg
namespace Go.Iso
open Go Go.RowKit
set_option linter.unusedSimpArgs false
set_option linter.unusedVariables false
def slotOnly : Op → Bool
  | .move _ | .assign _ | .pick .. | .binOp .. | .unOp .. | .fieldAddr .. | .field .. | .indexAddr .. | .extract .. | .makeFunc .. | .convert .. | .index .. | .build .. | .slice .. | .nilCheck _ => true
  | .call { callee := .builtin .len, .. } | .call { callee := .builtin .min, .. } | .call { callee := .builtin .max, .. } => true
  | _ => false
def isW : Op → Bool
  | .store .. | .alloc .. | .box .. | .makeSlice .. | .makeMap .. | .mapUpdate .. | .insert .. => true
  | .call { callee := .builtin .append, .. } | .call { callee := .builtin .copy, .. } | .call { callee := .builtin .delete, .. } => true
  | _ => false
structure Wit {α : Type} {β : Sort 1} (f : α → β) : Type where
def Hold {α : Type} {β : Sort 1} (f : α → β) : Wit f := ⟨⟩
def Later {α : Type} {β : Sort 1} {f : α → β} (_ : Wit f) : α → β := f
theorem nrfl' {α : Sort 1} {a b : α} (h : a = b) : a = b := h
theorem nrfl {α : Type} {a b : α} (h : a = b) : a = b := h
theorem Later_apply {α : Type} {β : Sort 1} (f : α → β) (x : α) : Later (Hold f) x = f x := by cases Hold f; exact nrfl' rfl
def pickK (v x y : V) (K : V → Prop) : Prop := match v with | .d (.val (.bool t)) => (t = true → K x) ∧ (t = false → K y) | _ => False
def moveK (x : V) (K : V → Prop) : Prop := K x
def optK {α : Type} (o : Option α) (K : α → Prop) : Prop := match o with | some x => K x | none => False
def loadK (agg : Option Bool) (n : Option Nat) (σ : Heap) (x : V) (K : V → Prop) : Prop :=
  match agg, n, x with
  | some g, some m, .iptr cs => optK (ldV g m (cs.map .d)) K
  | some g, some m, .ptr o k i j => optK (σ o) (Later (Hold fun ow => ow.k = k ∧ optK ow.rows[i]? (Later (Hold fun row => optK (ldV g m (row.drop j)) K))))
  | _, _, _ => False
def fldK (fd : Option (Nat × TypeId)) (x : V) (K : V → Prop) : Prop :=
  match fd, x with
  | some (off, _), .iptr cs => K (.iptr (cs.drop off))
  | some (off, _), .ptr o k i j => K (.ptr o k i (j + off))
  | _, _ => False
def fdOf (P : Program) (s : TypeId) (f : Nat) : Option (Nat × TypeId) :=
  match fldOf P s f with
  | some (off, ft) => match szOf P ft with
    | some (_ + 1) => some (off, ft)
    | _ => none
  | none => none
def partK (fd : Option (Nat × Nat × Bool)) (x : V) (K : V → Prop) : Prop :=
  match fd, x with
  | some (off, n, agg), .agg cs => optK (ldV agg n (cs.drop off)) K
  | _, _ => False
def ptOf (P : Program) (s : TypeId) (f : Nat) : Option (Nat × Nat × Bool) :=
  match fldOf P s f with
  | some (off, ft) => match szOf P ft, aggOf P ft with
    | some n, some g => some (off, n, g)
    | _, _ => none
  | none => none
def esOf (P : Program) (t : TypeId) : Option Nat := (elOf P t).bind (szOf P)
def idxK (es : Option Nat) (x ix : V) (K : V → Prop) : Prop :=
  match es, x, ix with
  | some s, .d (.sl xs), .d (.val (.int _ n)) => 0 ≤ n ∧ optK xs[n.toNat]? (Later (Hold fun row => row.length = s ∧ K (.iptr row)))
  | some s, .msl o k off len, .d (.val (.int _ n)) => 0 ≤ n ∧ n < (len : Int) ∧ s = k ∧ K (.ptr o k (off + n.toNat) 0)
  | _, _, _ => False
def valK (r : Option Value) (K : V → Prop) : Prop := match r with | some c => K (.d (.val c)) | none => False
def bopV (P : Program) (op : BinOp) (t : TypeId) (x y : V) : Option Value := match x, y with | .d (.val c), .d (.val d) => bop P t op c d | _, _ => none
def uopV (op : UnOp) (x : V) : Option Value := match x with | .d (.val c) => uop op c | _ => none
def cvV (P : Program) (s d : TypeId) (x : V) : Option Value := match x with | .d (.val c) => cvOf P s d c | _ => none
def b2sT (P : Program) (s d : TypeId) : Bool :=
  match P.underlying s, P.underlying d with
  | some (.slice e), some .string => match P.underlying e with
    | some (.int .u8) => true
    | _ => false
  | _, _ => false
def cnvK (P : Program) (dr : Bool) (σ : Heap) (s d : TypeId) (x : V) (K : V → Prop) : Prop :=
  valK (cvV P s d x) K ∨ (dr = false ∧ b2sT P s d = true ∧ ∃ zs : List Int, SealD σ x (.sl (zs.map fun z => [.val (.int .u8 z)])) ∧ K (.d (.val (.string (strOfNums zs)))))
def copyK (et : Option (Nat × Nat × List V)) (σ : Heap) (x y : V) (K : V → Heap → Prop) : Prop :=
  ∃ n byt z o len ow src, et = some (n, byt, z) ∧ x = .msl o n 0 len ∧ σ o = some ow ∧ ow.k = n ∧ ow.rows.length = len ∧ srcRows σ y = some src ∧ (∀ r ∈ src, r.length = n) ∧ RowsOne src ∧ src.length ≤ len ∧
    K (.d (.val (.int .i64 (src.length : Int)))) (upd σ o (some ⟨n, src ++ ow.rows.drop src.length⟩))
def extK (x : V) (n : Nat) (K : V → Prop) : Prop :=
  match x with
  | .tup cs => optK cs[n]? K
  | _ => False
def fnK (fn : Go.Fn) (first caps : Array Operand) (G : Nat → V) (K : V → Prop) : Prop :=
  match fn with
  | .func f => first = #[] ∧ K (.fn f (caps.toList.map (evO G)))
  | _ => False
def nilK (x : V) (K : V → Prop) : Prop := isPtr x = true ∧ K x
def strK (P : Program) (t : TypeId) (x ix : V) (K : V → Prop) : Prop :=
  match x, ix with
  | .d (.val (.string s)), .d (.val (.int _ n)) => P.underlying t = some .string ∧ optK (strAt s n) (Later (Hold fun b => K (.d (.val (.int .u8 b.toNat)))))
  | _, _ => False
def mmV (mx : Bool) (x y : V) : Option Value :=
  match x, y with
  | .d (.val (.int k m)), .d (.val (.int _ n)) => some (.int k (if mx then (if n > m then n else m) else (if n < m then n else m)))
  | _, _ => none
def lenK (P : Program) (t : TypeId) (x : V) (K : V → Prop) : Prop := lenT P t x = true ∧ optK (lenV x) (Later (Hold fun n => K (.d (.val (.int .i64 n)))))
def bltK (P : Program) (b : Builtin) (args : List Operand) (ts : List TypeId) (G : Nat → V) (K : V → Prop) : Prop :=
  match b, args, ts with
  | .len, [x], [t] => lenK P t (evO G x) K
  | .min, [x, y], _ => valK (mmV false (evO G x) (evO G y)) K
  | .max, [x, y], _ => valK (mmV true (evO G x) (evO G y)) K
  | _, _, _ => False
def bldK (ok : Bool) (z : Option Value) (out : List V → Option (List V)) (K : V → Prop) : Prop :=
  match z with
  | some z => ok = true ∧ rowOk (constV z) = true ∧ optK (out (toRow (constV z))) (Later (Hold fun cs => K (.agg cs)))
  | none => False
def sliceK (es : Option Nat) (xs : List (List D)) (l h : Option Int) (K : V → Prop) : Prop :=
  match es with
  | some s => (∀ row ∈ xs, row.length = s) ∧ optK (cutL xs l h) (Later (Hold fun r => K (.d (.sl r))))
  | none => False
def cutK (P : Program) (t : TypeId) (x : V) (lo hi : Option (Option Int)) (K : V → Prop) : Prop :=
  match x, lo, hi with
  | .d (.val (.string s)), some l, some h => P.underlying t = some .string ∧ optK (cutStr s l h) (Later (Hold fun r => K (.d (.val (.string r)))))
  | .d (.sl xs), some l, some h => sliceK (esOf P t) xs l h K
  | _, _, _ => False
def pcallK [Glb] (P : Program) (σ : Heap) (f : V) (args : List V) (K : V → Prop) : Prop :=
  match f with
  | .fn id caps => ∃ v args', Cn P id args' v ∧ CallA σ (args ++ caps) args' v ∧ K v
  | _ => False
def callK [Glb] (P : Program) (f : V) (args : List V) (σ : Heap) (N id : Nat) (K : V → Heap → Prop) : Prop :=
  match f with
  | .fn g caps => ∃ v σ', ((∃ args', Cn P g args' v ∧ CallA σ (args ++ caps) args' v ∧ σ' = σ) ∨ CallS P g (args ++ caps) σ N id v σ') ∧ K v σ'
  | _ => False
def pv [Glb] (P : Program) (op : Op) (G : Nat → V) (σ : Heap) (K : V → Prop) : Prop :=
  match op with
  | .move x => moveK (evO G x) K
  | .assign x => moveK (evO G x) K
  | .pick c x y => pickK (evO G c) (evO G x) (evO G y) K
  | .load t x => loadK (aggOf P t) (szOf P t) σ (evO G x) K
  | .fieldAddr s x f => fldK (fdOf P s f) (evO G x) K
  | .field s x f => partK (ptOf P s f) (evO G x) K
  | .indexAddr t x ix => idxK (esOf P t) (evO G x) (evO G ix) K
  | .binOp op t x y _ => valK (bopV P op t (evO G x) (evO G y)) K
  | .unOp op _ x => valK (uopV op (evO G x)) K
  | .convert s d x => valK (cvV P s d (evO G x)) K
  | .extract x n => extK (evO G x) n K
  | .makeFunc fn first caps => fnK fn first caps G K
  | .index t x ix => strK P t (evO G x) (evO G ix) K
  | .build t parts => bldK (stOk P t) (zOf P t) (bldV P t (parts.toList.map fun p => (p.1, evO G p.2))) K
  | .slice t x lo hi none => cutK P t (evO G x) (boundV G lo) (boundV G hi) K
  | .nilCheck x => nilK (evO G x) K
  | .call { callee := .builtin b, args, argTypes } => bltK P b args.toList argTypes.toList G K
  | .call { callee := .value f, args, .. } => pcallK P σ (evO G f) (args.toList.map (evO G)) K
  | _ => False
def allocK (z : Option Value) (σ : Heap) (id : Nat) (K : V → Heap → Prop) : Prop :=
  match z with
  | some z => rowOk (constV z) = true ∧ K (.ptr id (toRow (constV z)).length 0 0) (upd σ id (some ⟨(toRow (constV z)).length, [toRow (constV z)]⟩))
  | none => False
def boxK (x : V) (σ : Heap) (id : Nat) (K : V → Heap → Prop) : Prop :=
  rowOk x = true ∧ K (.ptr id (toRow x).length 0 0) (upd σ id (some ⟨(toRow x).length, [toRow x]⟩))
def storeK (n : Option Nat) (x y : V) (σ : Heap) (K : V → Heap → Prop) : Prop :=
  match n, x with
  | some n, .ptr o k i j => optK (σ o) (Later (Hold fun ow => ow.k = k ∧ optK ow.rows[i]? (Later (Hold fun row => rowOk y = true ∧ (∀ v ∈ toRow y, v.one = true) ∧ (toRow y).length = n ∧ j + n ≤ k ∧
      K .any (upd σ o (some ⟨k, ow.rows.set i (putRow row j (toRow y))⟩))))))
  | _, _ => False
def bsK (et : Option (Nat × Nat × List V)) (dr ord : Bool) (len : Nat) (vs : List V) (σ : Heap) (id : Nat) (K : V → Heap → Prop) : Prop :=
  match et with
  | some (n, _, _) => ord = true ∧ vs.length = len ∧ len * n ≤ 16777216 ∧ (∀ v ∈ vs, rowOk v = true ∧ (toRow v).length = n) ∧
      (match asRows (vs.map toRow), dr || len != 0 with
        | some ds, true => K (.d (.sl ds)) σ
        | _, _ => dr = false ∧ K (.msl id n 0 len) (upd σ id (some ⟨n, vs.map toRow⟩)))
  | none => False
def appK (et : Option (Nat × Nat × List V)) (sq : Bool) (σ : Heap) (id : Nat) (x y : V) (K : V → Heap → Prop) : Prop :=
  ∃ n byt z, et = some (n, byt, z) ∧ sq = true ∧
    ((∃ o len ow src, x = .msl o n 0 len ∧ σ o = some ow ∧ ow.k = n ∧ ow.rows.length = len ∧ srcRows σ y = some src ∧ (∀ r ∈ src, r.length = n) ∧ RowsOne src ∧ (2 * (len + src.length) + 1000) * byt ≤ 2 ^ 48 ∧
        K (.msl id n 0 (len + src.length)) (upd (del σ o) id (some ⟨n, ow.rows ++ src⟩))) ∨
     (∃ o src, x = .d (.val (.slice none 0 0)) ∧ srcRows σ y = some src ∧ src ≠ [] ∧ (∀ r ∈ src, r.length = n) ∧ (2 * src.length + 1000) * byt ≤ 2 ^ 48 ∧ K (.msl id n 0 src.length) (upd (del σ o) id (some ⟨n, src⟩))) ∨
     (∃ ys : List (List D), x = .d (.val (.slice none 0 0)) ∧ srcRows σ y = some (ys.map (·.map .d)) ∧ (∀ r ∈ ys, r.length = n) ∧ (2 * ys.length + 1000) * byt ≤ 2 ^ 48 ∧ K (.d (.sl ys)) σ))
theorem OpW.rows [Glb] {P : Program} {op : Op} {G : Nat → V} {σ : Heap} {N id : Nat} {v : V} {n l : Nat} {z z' : List V} (h : OpW P op G σ N id v (upd σ id (some ⟨n, List.replicate l z⟩))) (hs : SealAll Heap.none z z') : OpW P op G σ N id v (upd σ id (some ⟨n, List.replicate l z'⟩)) := by
  intro o ho ρ I a w hh hN hid hg K Q hK
  refine h o ho ρ I a w hh hN hid hg K Q fun c ρ' I' w' st hh' hx hv => hK c ρ' I' w' ⟨st.toKept.owns fun b ⟨p, x, h1, h2⟩ => ?_, st.ids⟩ ⟨fun p x hp => ?_, fun p p' x x' b h1 h2 h3 h4 => ?_, hh'.base⟩ hx hv
  · by_cases e : p = id
    · subst e; exact ⟨p, _, upd_same .., h2⟩
    · rw [upd_ne _ _ e] at h1; exact ⟨p, x, by rw [upd_ne _ _ e]; exact h1, h2⟩
  · by_cases e : p = id
    · subst e
      rw [upd_same] at hp
      obtain rfl := Option.some.inj hp
      obtain ⟨b, c', e', k1, k2, k3, k4, k5⟩ := hh'.own p ⟨n, List.replicate l z⟩ (upd_same ..)
      refine ⟨b, c', e', k1, k2, by simpa using k3, k4, fun i hi => ?_⟩
      simp only [List.length_replicate] at hi
      obtain ⟨q1, q2⟩ := k5 i (by simpa using hi)
      simp only [List.getElem_replicate] at q1 q2 ⊢
      refine ⟨by rw [← hs.get.1]; exact q1, fun j hj => ?_⟩
      have hn : HeapOk Heap.none ρ' I' w' := hh'.forget fun o x h => by cases h
      exact ((hs.get.2 j (by rw [hs.get.1]; exact hj) hj).rep hn (q2 j (by rw [hs.get.1]; exact hj))).mono (fun _ _ h => h) (fun b h => h.elim (fun h => h) fun ⟨_, _, h, _⟩ => by cases h) (fun _ _ => rfl) (fun _ c _ h => ⟨c, h, rfl⟩)
    · rw [upd_ne _ _ e] at hp
      exact hh'.own p x (by rw [upd_ne _ _ e]; exact hp)
  · have key : ∀ p x, upd σ id (some ⟨n, List.replicate l z'⟩) p = some x → ∃ y, upd σ id (some ⟨n, List.replicate l z⟩) p = some y := fun p x h => by
      by_cases e : p = id
      · subst e; exact ⟨_, upd_same ..⟩
      · rw [upd_ne _ _ e] at h; exact ⟨x, by rw [upd_ne _ _ e]; exact h⟩
    obtain ⟨y, h1⟩ := key p x h1
    obtain ⟨y', h2⟩ := key p' x' h2
    exact hh'.inj p p' y y' b h1 h2 h3 h4
def mkK (et : Option (Nat × Nat × List V)) (σ : Heap) (id : Nat) (x y : V) (K : V → Heap → Prop) : Prop :=
  match et, x, y with
  | some (n, byt, z), .d (.val (.int .i64 l)), .d (.val (.int .i64 c)) => 0 ≤ l ∧ l ≤ c ∧ c.toNat * byt ≤ 2 ^ 48 ∧ ∃ z', SealAll Heap.none z z' ∧ K (.msl id n 0 l.toNat) (upd σ id (some ⟨n, List.replicate l.toNat z'⟩))
  | _, _, _ => False
def wv [Glb] (P : Program) (dr : Bool) (N : Nat) (op : Op) (G : Nat → V) (σ : Heap) (id : Nat) (K : V → Heap → Prop) : Prop :=
  match op with
  | .store t x y => storeK (szOf P t) (evO G x) (evO G y) σ K
  | .alloc t => allocK (zOf P t) σ id K
  | .box _ x => boxK (evO G x) σ id K
  | .buildSlice t len parts => bsK (elT P t) dr (inOrder 0 parts.toList) len (parts.toList.map fun p => evO G p.2) σ id K
  | .makeSlice t x y => mkK (elT P t) σ id (evO G x) (evO G y) K
  | .call { callee := .builtin .append, args, argTypes } => match args.toList, argTypes.toList with
    | [x, y], [t, t2] => appK (elT P t) (seqT P t2) σ id (evO G x) (evO G y) K
    | _, _ => False
  | .call { callee := .builtin .copy, args, argTypes } => match args.toList, argTypes.toList with
    | [x, y], [t, _] => copyK (elT P t) σ (evO G x) (evO G y) K
    | _, _ => False
  | .convert s d x => cnvK P dr σ s d (evO G x) (Later (Hold fun v => K v σ))
  | .call { callee := .value f, args, .. } => if dr then pcallK P σ (evO G f) (args.toList.map (evO G)) (Later (Hold fun v => K v σ)) else callK P (evO G f) (args.toList.map (evO G)) σ N id K
  | op => pv P op G σ (Later (Hold fun v => K v σ))
section
variable {P : Program} {G : Nat → V} {σ σ' : Heap} {ρ ρ' : Nat → Option Nat} {I I' : Nat → Prop} {w w' : World} {a : Act}
theorem optK_some {α : Type} {o : Option α} {K : α → Prop} (h : optK o K) : ∃ x, o = some x ∧ K x := by
  unfold optK at h; split at h
  · exact ⟨_, rfl, h⟩
  · exact h.elim
theorem valK_some {o : Option Value} {K : V → Prop} (h : valK o K) : ∃ c, o = some c ∧ K (.d (.val c)) := by
  unfold valK at h; split at h
  · exact ⟨_, rfl, h⟩
  · exact h.elim
theorem fdOf_some {s f : Nat} {off : Nat} {ft : TypeId} (h : fdOf P s f = some (off, ft)) : ∃ n, fldOf P s f = some (off, ft) ∧ szOf P ft = some n ∧ n ≠ 0 := by
  unfold fdOf at h; split at h
  · next h1 => split at h
               · next h2 => simp only [Option.some.injEq, Prod.mk.injEq] at h; obtain ⟨rfl, rfl⟩ := h; exact ⟨_, h1, h2, by omega⟩
               · cases h
  · cases h
theorem ptOf_some {s f : Nat} {off n : Nat} {g : Bool} (h : ptOf P s f = some (off, n, g)) : ∃ ft, fldOf P s f = some (off, ft) ∧ szOf P ft = some n ∧ aggOf P ft = some g := by
  unfold ptOf at h; split at h
  · next h1 => split at h
               · next h2 h3 => simp only [Option.some.injEq, Prod.mk.injEq] at h; obtain ⟨rfl, rfl, rfl⟩ := h; exact ⟨_, h1, h2, h3⟩
               · cases h
  · cases h
theorem esOf_some {t s : Nat} (h : esOf P t = some s) : ∃ e, elOf P t = some e ∧ szOf P e = some s := by
  unfold esOf at h
  cases he : elOf P t with
  | none => simp [he] at h
  | some e => simp only [he, Option.bind_some] at h; exact ⟨e, rfl, h⟩
theorem pv_sound [Glb] {op : Op} {K : V → Prop} (h : pv P op G σ K) : ∃ v, OpP P op G σ v ∧ (slotOnly op = true → ∀ σ', OpP P op G σ' v) ∧ K v := by
  unfold pv at h
  split at h
  case h_1 x => exact ⟨_, .move x, fun _ _ => .move x, h⟩
  case h_2 x => exact ⟨_, .assign x, fun _ _ => .assign x, h⟩
  case h_3 c x y =>
    unfold pickK at h; split at h
    · next t ht =>
      cases t with
      | true => exact ⟨_, .pick ht, fun _ _ => .pick ht, h.1 rfl⟩
      | false => exact ⟨_, .pick ht, fun _ _ => .pick ht, h.2 rfl⟩
    · exact h.elim
  case h_4 t x =>
    unfold loadK at h; split at h
    · next g m cs h1 h2 hx => obtain ⟨v, h3, h4⟩ := optK_some h; exact ⟨v, .load_iptr hx h1 h2 h3, (fun h => by cases h), h4⟩
    · next g m o k i j h1 h2 hx => obtain ⟨ow, h3, h4, h⟩ := optK_some h; obtain ⟨row, h5, h⟩ := optK_some h; obtain ⟨v, h6, h7⟩ := optK_some h; exact ⟨v, .load_ptr hx h3 h4 h5 h1 h2 h6, (fun h => by cases h), h7⟩
    · exact h.elim
  case h_5 s x f =>
    unfold fldK at h; split at h
    · next off ft cs h1 hx => obtain ⟨n, h1, h2, h3⟩ := fdOf_some h1; exact ⟨_, .fieldAddr_iptr hx h1 h2 h3, fun _ _ => .fieldAddr_iptr hx h1 h2 h3, h⟩
    · next off ft o k i j h1 hx => obtain ⟨n, h1, h2, h3⟩ := fdOf_some h1; exact ⟨_, .fieldAddr_ptr hx h1 h2 h3, fun _ _ => .fieldAddr_ptr hx h1 h2 h3, h⟩
    · exact h.elim
  case h_6 s x f =>
    unfold partK at h; split at h
    · next off n g cs h1 hx => obtain ⟨ft, h1, h2, h3⟩ := ptOf_some h1; obtain ⟨v, h4, h5⟩ := optK_some h; exact ⟨_, .field hx h1 h2 h3 h4, fun _ _ => .field hx h1 h2 h3 h4, h5⟩
    · exact h.elim
  case h_7 t x ix =>
    unfold idxK at h; split at h
    · next s xs k n h1 hx hi => obtain ⟨e, h1, h2⟩ := esOf_some h1; obtain ⟨h0, h⟩ := h; obtain ⟨row, h3, h4, h5⟩ := optK_some h; exact ⟨_, .indexAddr_sl hx hi h0 h3 h1 h2 h4, fun _ _ => .indexAddr_sl hx hi h0 h3 h1 h2 h4, h5⟩
    · next s o k off len ki n h1 hx hi => obtain ⟨e, h1, h2⟩ := esOf_some h1; obtain ⟨h0, h3, rfl, h5⟩ := h; exact ⟨_, .indexAddr_msl hx hi h0 h3 h1 h2, fun _ _ => .indexAddr_msl hx hi h0 h3 h1 h2, h5⟩
    · exact h.elim
  case h_8 op t x y _ =>
    obtain ⟨r, h1, h2⟩ := valK_some h
    unfold bopV at h1; split at h1
    · next c d hx hy => exact ⟨_, .binOp hx hy h1, fun _ _ => .binOp hx hy h1, h2⟩
    · cases h1
  case h_9 op t x =>
    obtain ⟨r, h1, h2⟩ := valK_some h
    unfold uopV at h1; split at h1
    · next c hx => exact ⟨_, .unOp hx h1, fun _ _ => .unOp hx h1, h2⟩
    · cases h1
  case h_10 s d x =>
    obtain ⟨r, h1, h2⟩ := valK_some h
    unfold cvV at h1; split at h1
    · next c hx => exact ⟨_, .convert hx h1, fun _ _ => .convert hx h1, h2⟩
    · cases h1
  case h_11 x n =>
    unfold extK at h; split at h
    · next cs hx => obtain ⟨v, h1, h2⟩ := optK_some h; exact ⟨_, .extract hx h1, fun _ _ => .extract hx h1, h2⟩
    · exact h.elim
  case h_12 fn first caps =>
    unfold fnK at h; split at h
    · obtain ⟨rfl, h2⟩ := h; exact ⟨_, .makeFunc, fun _ _ => .makeFunc, h2⟩
    · exact h.elim
  case h_13 t x ix =>
    unfold strK at h; split at h
    · next s k n hx hi => obtain ⟨h1, h⟩ := h; obtain ⟨b, h2, h3⟩ := optK_some h; exact ⟨_, .index_str hx hi h1 h2, fun _ _ => .index_str hx hi h1 h2, h3⟩
    · exact h.elim
  case h_14 t parts =>
    unfold bldK at h; split at h
    · next z hz => obtain ⟨h1, h2, h⟩ := h; obtain ⟨cs, h3, h4⟩ := optK_some h; exact ⟨_, .build h1 hz h2 h3, fun _ _ => .build h1 hz h2 h3, h4⟩
    · exact h.elim
  case h_15 t x lo hi =>
    unfold cutK at h; split at h
    · next s l h' hx hl hh' => obtain ⟨h1, h⟩ := h; obtain ⟨r, h3, h4⟩ := optK_some h; exact ⟨_, .slice_str hx h1 hl hh' h3, fun _ _ => .slice_str hx h1 hl hh' h3, h4⟩
    · next xs l h' hx hl hh' =>
      unfold sliceK at h; split at h
      · next s hs =>
        obtain ⟨e, k1, k2⟩ := esOf_some hs
        obtain ⟨h1, h⟩ := h
        obtain ⟨r, h3, h4⟩ := optK_some h
        exact ⟨_, .slice_sl hx k1 k2 h1 hl hh' h3, fun _ _ => .slice_sl hx k1 k2 h1 hl hh' h3, h4⟩
      · exact h.elim
    · exact h.elim
  case h_16 x => exact ⟨_, .nilCheck h.1, fun _ _ => .nilCheck h.1, h.2⟩
  case h_17 b args ts =>
    unfold bltK at h; split at h
    · next x t ha ht =>
      obtain ⟨h1, h⟩ := h
      obtain ⟨n, h2, h3⟩ := optK_some h
      obtain rfl : args = #[x] := by rw [← Array.toArray_toList (xs := args), ha]
      obtain rfl : ts = #[t] := by rw [← Array.toArray_toList (xs := ts), ht]
      exact ⟨_, .len h1 h2, fun _ _ => .len h1 h2, h3⟩
    · next x y ha =>
      obtain rfl : args = #[x, y] := by rw [← Array.toArray_toList (xs := args), ha]
      obtain ⟨r, h1, h2⟩ := valK_some h
      unfold mmV at h1; split at h1
      · next k m k' n hx hy => simp only [Bool.false_eq_true, if_false, Option.some.injEq] at h1; subst h1; exact ⟨_, .min2 hx hy, fun _ _ => .min2 hx hy, h2⟩
      · cases h1
    · next x y ha =>
      obtain rfl : args = #[x, y] := by rw [← Array.toArray_toList (xs := args), ha]
      obtain ⟨r, h1, h2⟩ := valK_some h
      unfold mmV at h1; split at h1
      · next k m k' n hx hy => simp only [if_true, Option.some.injEq] at h1; subst h1; exact ⟨_, .max2 hx hy, fun _ _ => .max2 hx hy, h2⟩
      · cases h1
    · exact h.elim
  case h_18 f args ts =>
    unfold pcallK at h; split at h
    · next id caps hx => obtain ⟨v, args', h1, h2, h3⟩ := h; exact ⟨v, .call hx h1 h2, (fun h => by cases h), h3⟩
    · exact h.elim
  case h_19 => exact h.elim
theorem b2sT_some {s d : TypeId} (h : b2sT P s d = true) : ∃ e, P.underlying s = some (.slice e) ∧ P.underlying e = some (.int .u8) ∧ P.underlying d = some .string := by
  unfold b2sT at h
  split at h
  · next e h1 h2 => split at h
                    · next h3 => exact ⟨e, h1, h3, h2⟩
                    · cases h
  · cases h
theorem OpP.bytes [Glb] {s d : TypeId} {x : Operand} {zs : List Int} (ht : b2sT P s d = true) (h : SealD σ (evO G x) (.sl (zs.map fun z => [.val (.int .u8 z)]))) :
    OpP P (.convert s d x) G σ (.d (.val (.string (strOfNums zs)))) :=
  .of_run fun o ho ρ I a w hh hg => by
    obtain ⟨e, h1, h2, h3⟩ := b2sT_some ht
    have hr := h.rep hh (evO_rep hg (x := x) (by simp [Op.operands]))
    generalize hX : (D.sl (zs.map fun z => [D.val (.int .u8 z)])) = X at hr
    generalize hc : a.eval x = c at hr
    refine ⟨_, ?_, .d (.val _ ?_)⟩
    · show (execOp a.eval o).run P w = .ok (.value (.string (strOfNums zs))) w
      simp only [execOp, ho, hc]
      cases hr with
      | val _ _ => cases hX
      | nil ad cap =>
        have : zs = [] := by cases zs with | nil => rfl | cons z zs => cases hX
        subst this
        have e0 : (Go.convert s d (.slice ad 0 cap)).run P w = .ok (.string (strOfNums [])) w := by
          cases ad with
          | none => rw [run_convert_bytes_nil w s e h1 h2 0 cap d h3]; rfl
          | some ad =>
            rw [run_convert_bytes_string w s d e _ 0 cap h1 h2 h3, run_bytesToString w ad 0 cap [] (by simp [loadCells, loadCellsFrom])]; rfl
        simp only [Sem.run_bind, e0, Result.andThen_ok, Sem.run_pure]
      | sl b off cap k xs f hI hcp hm hk hf hrr =>
        cases hX
        have e0 := run_convert_bytes_arg w s e h1 h2 b off (zs.map fun z => [D.val (.int .u8 z)]).length cap zs (by simp) (fun i hi => by
          have hi' : i < zs.length := by simpa using hi
          have hk1 : k = 1 := by
            have := hk ((zs.map fun z => [D.val (.int .u8 z)])[i]) (List.getElem_mem _)
            simpa using this.symm
          subst hk1
          have q1 := hf i 0 hi (by simp)
          have q2 := hrr i 0 hi (by simp)
          simp only [Nat.mul_one, Nat.add_zero] at q1
          have q3 : f i 0 = .int .u8 (zs.getD i 0) := by
            have e9 : (zs.map fun z => [D.val (.int .u8 z)])[i][0]'(by simp) = D.val (.int .u8 zs[i]) := by simp
            rw [e9] at q2
            generalize f i 0 = v at q2 ⊢
            cases q2
            simp [List.getD, List.getElem?_eq_getElem hi']
          rw [← q3]; exact q1) d h3
        simp only [Sem.run_bind, e0, Result.andThen_ok, Sem.run_pure]
    · show decide ((strOfNums zs).size ≤ 9223372036854775807) = true
      rw [strOfNums_size]
      cases hr with
      | val _ _ => cases hX
      | nil ad cap =>
        have : zs = [] := by cases zs with | nil => rfl | cons z zs => cases hX
        subst this; rfl
      | sl b off cap k xs f hI hcp hm hk hf hrr =>
        cases hX
        exact decide_eq_true (by simp at hcp; omega)
theorem wv_sound [Glb] {dr : Bool} {N : Nat} {op : Op} {id : Nat} {K : V → Heap → Prop} (h : wv P dr N op G σ id K) :
    ∃ v σ', OpW P op G σ N id v σ' ∧ (dr = true → isW op = false → σ' = σ ∧ OpP P op G σ v ∧ (slotOnly op = true → ∀ σ2, OpP P op G σ2 v)) ∧ K v σ' := by
  have hp : ∀ {op : Op}, pv P op G σ (fun v => K v σ) → ∃ v σ', OpW P op G σ N id v σ' ∧ (dr = true → isW op = false → σ' = σ ∧ OpP P op G σ v ∧ (slotOnly op = true → ∀ σ2, OpP P op G σ2 v)) ∧ K v σ' := by
    intro op h
    obtain ⟨v, h1, h2, h3⟩ := pv_sound h
    exact ⟨v, σ, h1.opW N id, fun _ _ => ⟨rfl, h1, h2⟩, h3⟩
  unfold wv at h
  split at h
  case h_1 t x y =>
    unfold storeK at h; split at h
    · next n o k i j h1 hx =>
      obtain ⟨ow, h2, h3, h⟩ := optK_some h
      obtain ⟨row, h4, h5, h6, h7, h8, h9⟩ := optK_some h
      exact ⟨_, _, .store hx h2 h3 h4 h1 h5 h6 h7 h8, (fun _ h => by cases h), h9⟩
    · exact h.elim
  case h_2 t =>
    unfold allocK at h; split at h
    · next z h1 => exact ⟨_, _, .alloc h1 h.1, (fun _ h => by cases h), h.2⟩
    · exact h.elim
  case h_3 t x => exact ⟨_, _, .box h.1, (fun _ h => by cases h), h.2⟩
  case h_4 t len parts =>
    unfold bsK at h; split at h
    · next n byt zr hel =>
      obtain ⟨e, z, k1, k2, k3, k4, k5, k6, k7, k8, rfl⟩ := elT_some hel
      obtain ⟨h1, h2, h3, h4, h⟩ := h
      have hrows : ∀ p ∈ parts.toList, rowOk (evO G p.2) = true ∧ (toRow (evO G p.2)).length = n := fun p hp => h4 _ (List.mem_map_of_mem (f := fun p => evO G p.2) hp)
      have hmap : (parts.toList.map fun p => evO G p.2).map toRow = sliceRows G parts.toList := by simp [sliceRows]
      rw [hmap] at h
      split at h
      · next ds hds hd => exact ⟨_, σ, (OpP.buildSlice k1 k2 k5 k4 k7 k8 h1 (by simpa using h2) h3 hrows hds).opW N id, fun _ _ => ⟨rfl, .buildSlice k1 k2 k5 k4 k7 k8 h1 (by simpa using h2) h3 hrows hds, fun hs => by cases hs⟩, h⟩
      · obtain ⟨rfl, h⟩ := h
        exact ⟨_, _, .buildSlice k1 k2 k5 k4 k7 k8 h1 (by simpa using h2) h3 hrows, (fun h => by cases h), h⟩
    · exact h.elim
  case h_5 t x y =>
    unfold mkK at h; split at h
    · next n byt zr l c hel hx hy =>
      obtain ⟨e, z, k1, k2, k3, k4, k5, k6, k7, k8, rfl⟩ := elT_some hel
      obtain ⟨h1, h2, h3, z', hs, h4⟩ := h
      obtain ⟨l, rfl⟩ : ∃ m : Nat, l = m := ⟨l.toNat, by omega⟩
      obtain ⟨c, rfl⟩ : ∃ m : Nat, c = m := ⟨c.toNat, by omega⟩
      exact ⟨_, _, (OpW.makeSlice hx hy (by omega) k1 k2 k5 k3 k6 k4 k7 k8 (by simpa using h3)).rows hs, (fun _ h => by cases h), h4⟩
    · exact h.elim
  case h_6 args ts =>
    split at h
    · next x y t t2 ha ht =>
      obtain rfl : args = #[x, y] := by rw [← Array.toArray_toList (xs := args), ha]
      obtain rfl : ts = #[t, t2] := by rw [← Array.toArray_toList (xs := ts), ht]
      obtain ⟨n, byt, zr, hel, hsq, h⟩ := h
      obtain ⟨e, z, k1, k2, k3, k4, k5, k6, k7, k8, rfl⟩ := elT_some hel
      rcases h with ⟨o, len, ow, src, h1, h2, h3, h4, h5, h6, h7, h8, h9⟩ | ⟨od, src, h1, h2, h3, h4, h5, h6⟩ | ⟨ys, h1, h2, h3, h4, h5⟩
      · exact ⟨_, _, OpW.append h1 h2 h3 h4 k1 k2 k5 k3 k6 k4 k7 k8 hsq h5 h6 h7 h8, (fun _ h => by cases h), h9⟩
      · refine ⟨_, _, (OpW.append_nil h1 k1 k2 k5 k3 k6 k4 k7 k8 hsq h2 h3 h4 h5).forget fun m z hm => ?_, (fun _ h => by cases h), h6⟩
        by_cases hmi : m = id
        · rw [hmi, upd_same] at hm ⊢; exact hm
        · rw [upd_ne _ _ hmi] at hm ⊢
          unfold del at hm; split at hm
          · cases hm
          · exact hm
      · exact ⟨_, σ, (OpP.append_nil h1 k1 k2 k5 k3 k6 k4 k7 k8 hsq h2 h3 h4).opW N id, (fun _ h => by cases h), h5⟩
    · exact h.elim
  case h_7 args ts =>
    split at h
    · next x y t t2 ha ht =>
      obtain rfl : args = #[x, y] := by rw [← Array.toArray_toList (xs := args), ha]
      obtain rfl : ts = #[t, t2] := by rw [← Array.toArray_toList (xs := ts), ht]
      obtain ⟨n, byt, zr, o, len, ow, src, hel, h1, h2, h3, h4, h5, h6, h7, h8, h9⟩ := h
      obtain ⟨e, z, k1, k2, k3, k4, k5, k6, k7, k8, rfl⟩ := elT_some hel
      exact ⟨_, _, OpW.copy h1 h2 h3 h4 k1 k2 k5 h5 h6 h7 h8, (fun _ h => by cases h), h9⟩
    · exact h.elim
  case h_8 s d x =>
    rcases h with h | ⟨hd, ht, zs, h1, h2⟩
    · exact hp (op := .convert s d x) (by simpa [pv, Later] using h)
    · exact ⟨_, σ, (OpP.bytes ht h1).opW N id, (fun h => by rw [hd] at h; cases h), h2⟩
  case h_9 f args ts =>
    cases dr with
    | true => exact hp (op := .call { callee := .value f, args := args, argTypes := ts }) (by simpa [pv, Later] using h)
    | false =>
      simp only [Bool.false_eq_true, if_false] at h
      unfold callK at h; split at h
      · next g caps hx =>
        obtain ⟨v, σ', h1 | h1, h2⟩ := h
        · obtain ⟨args', h1, h3, rfl⟩ := h1; exact ⟨v, _, (OpP.call hx h1 h3).opW N id, (fun h => by cases h), h2⟩
        · exact ⟨v, σ', .call hx h1, (fun h => by cases h), h2⟩
      · exact h.elim
  case h_10 => exact hp h
end
end Go.Iso
