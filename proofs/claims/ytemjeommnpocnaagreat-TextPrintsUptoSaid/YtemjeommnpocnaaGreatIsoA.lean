/- Part of the proof of a law: contracts of the functions that the law reaches, or plain laws of them, out of the abstract layer (the texts YtemjeommnpocnaaGreatIso..). No condition. -/
import Derived.Calls
import Derived.Orders
import Derived.Below
import Derived.KernelRfl
import Derived.Laws.Cells
import Derived.Laws.Entries
import Derived.Laws.CopyRow
import Derived.Laws.Build
import Derived.Laws.BytesArg
namespace Go.Iso
open Go Go.RowKit
inductive D where
 | val (c : Value)
 | sl (xs : List (List D))
inductive V where
 | any
 | d (x : D)
 | agg (cs : List V)
 | tup (vs : List V)
 | ptr (o k i j : Nat)
 | iptr (cs : List D)
 | msl (o k off len : Nat)
 | fn (f : FuncId) (caps : List V)
 | mp (o : Nat)
 | ifc (t : TypeId) (v : V)
structure Own where
 k : Nat
 rows : List (List V)
abbrev Heap := Nat → Option Own
def Heap.none : Heap := fun _ => Option.none
def upd {α : Type} (f : Nat → α) (n : Nat) (x : α) : Nat → α := fun m => if m = n then x else f m
theorem upd_same {α : Type} (f : Nat → α) (n : Nat) (x : α) : upd f n x n = x := if_pos rfl
theorem upd_ne {α : Type} (f : Nat → α) {n m : Nat} (x : α) (h : m ≠ n) : upd f n x m = f m := if_neg h
abbrev Blk (w : World) (b : Nat) (c : Array Value) (e : TypeId) : Prop := w.heap[b]? = some (Go.Obj.cells c e (0, 0))
def WBlk (w : World) (b : Nat) (c : Array Value) (e : TypeId) : Prop := ∃ m, w.heap[b]? = some (Go.Obj.cells c e m)
abbrev MapAt (w : World) (b : Nat) (es : Array MapEntry) (cl : Nat) : Prop := w.heap[b]? = some (Go.Obj.map es cl)
def IsMap (w : World) (b : Nat) : Prop := ∃ es cl, MapAt w b es cl
def IsBlk (w : World) (b : Nat) : Prop := ∃ c e, WBlk w b c e
def flatM (es : Array MapEntry) : Array Value := (es.toList.flatMap fun e => [e.key, e.val]).toArray
inductive MKey where
 | str (s : ByteArray)
 | int (k : IntKind) (n : Int)
 deriving DecidableEq
abbrev MKey.v : MKey → Value
 | .str s => .string s
 | .int k n => .int k n
def MapRow (row : List V) : Prop := ∃ k v, row = [k, v] ∧ (k = .any ∨ ∃ s : MKey, k = .d (.val s.v)) ∧ (v = .any ∨ ∃ y, v = .d y)
def BlkX (w : World) (b : Nat) (c : Array Value) (e : TypeId) (x : Own) : Prop :=
 Blk w b c e ∨ (x.k = 2 ∧ (∃ es cl, MapAt w b es cl ∧ c = flatM es ∧ es.size = x.rows.length) ∧ ∀ row ∈ x.rows, MapRow row)
def KindB (w w' : World) (b : Nat) : Prop := (∀ (c : Array Value) (e : TypeId), WBlk w b c e → ∃ c' : Array Value, WBlk w' b c' e ∧ c'.size = c.size) ∧ (IsMap w b → IsMap w' b)
abbrev cellAt (w : World) (b o : Nat) : Option Value := w.cell? ⟨b, o, none⟩
def okVal : Value → Bool
 | .string s => decide (s.size ≤ 9223372036854775807)
 | c => c.oneCell'
theorem okVal_one {c : Value} (h : okVal c = true) : c.oneCell' = true := by
 cases c <;> first | rfl | exact h
inductive RepD (I : Nat → Prop) (w : World) : D → Value → Prop
 | val (c : Value) (h : okVal c = true) : RepD I w (.val c) c
 | nil (a : Option Addr) (cap : Nat) : RepD I w (.sl []) (.slice a 0 cap)
 | sl (b off cap k : Nat) (xs : List (List D)) (f : Nat → Nat → Value) (hI : I b) (hc : xs.length ≤ cap) (hm : cap ≤ 9223372036854775807) (hk : ∀ row ∈ xs, row.length = k)
   (hf : ∀ i j (hi : i < xs.length), j < xs[i].length → cellAt w b (off + i * k + j) = some (f i j))
   (hr : ∀ i j (hi : i < xs.length) (hj : j < xs[i].length), RepD I w xs[i][j] (f i j)) :
   RepD I w (.sl xs) (.slice (some ⟨b, off, none⟩) xs.length cap)
def Row (I : Nat → Prop) (w : World) (b off : Nat) (cs : List D) : Prop :=
 I b ∧ ∀ j (h : j < cs.length), ∃ c, cellAt w b (off + j) = some c ∧ RepD I w cs[j] c
inductive RepV (ρ : Nat → Option Nat) (I : Nat → Prop) (w : World) : V → Value → Prop
 | any (c : Value) : RepV ρ I w .any c
 | d {x : D} {c : Value} (h : RepD I w x c) : RepV ρ I w (.d x) c
 | agg {cs : List V} {vs : Array Value} (hn : vs.size = cs.length) (h : ∀ i (hi : i < cs.length), RepV ρ I w cs[i] (vs.getD i undef)) : RepV ρ I w (.agg cs) (.agg vs)
 | tup {cs : List V} {vs : Array Value} (hn : vs.size = cs.length) (h : ∀ i (hi : i < cs.length), RepV ρ I w cs[i] (vs.getD i undef)) : RepV ρ I w (.tup cs) (.tuple vs)
 | ptr {o k i j b : Nat} (h : ρ o = some b) (hb : IsBlk w b) : RepV ρ I w (.ptr o k i j) (.pointer (some ⟨b, i * k + j, none⟩))
 | iptr {cs : List D} {b off : Nat} (h : Row I w b off cs) : RepV ρ I w (.iptr cs) (.pointer (some ⟨b, off, none⟩))
 | msl {o k off len b cap : Nat} {c : Array Value} {e : TypeId} (h : ρ o = some b) (hb : WBlk w b c e) (hs : (off + cap) * k ≤ c.size) (hl : len ≤ cap) (hm : cap ≤ 9223372036854775807) :
   RepV ρ I w (.msl o k off len) (.slice (some ⟨b, off * k, none⟩) len cap)
 | fn {f : FuncId} {caps : List V} {vs : Array Value} (hn : vs.size = caps.length) (h : ∀ i (hi : i < caps.length), RepV ρ I w caps[i] (vs.getD i undef)) : RepV ρ I w (.fn f caps) (.func (.func f) #[] vs)
 | mp {o b : Nat} (h : ρ o = some b) (hm : IsMap w b) : RepV ρ I w (.mp o) (.map (some b))
 | ifc {t : TypeId} {v : V} {c : Value} (h : RepV ρ I w v c) : RepV ρ I w (.ifc t v) (.iface t c)
class Glb where
 val : Nat → Option (Array Value)
def Known [Glb] [Glb] (I : Nat → Prop) (w : World) : Prop := ∀ g cs, Glb.val g = some cs → I g ∧ ∃ e p, w.heap[g]? = some (.cells cs e p)
structure Base [Glb] [Glb] (I : Nat → Prop) (w : World) : Prop where
 lt : ∀ b, I b → b < w.heap.size
 known : Known I w
structure HeapOk [Glb] (σ : Heap) (ρ : Nat → Option Nat) (I : Nat → Prop) (w : World) : Prop where
 own : ∀ o x, σ o = some x → ∃ b c e, ρ o = some b ∧ BlkX w b c e x ∧ x.rows.length * x.k ≤ c.size ∧ ¬ I b ∧
  ∀ i (hi : i < x.rows.length), x.rows[i].length = x.k ∧ ∀ j (hj : j < x.rows[i].length), RepV ρ I w x.rows[i][j] (c.getD (i * x.k + j) undef)
 inj : ∀ o o' x x' b, σ o = some x → σ o' = some x' → ρ o = some b → ρ o' = some b → o = o'
 base : Base I w
theorem HeapOk.lt [Glb] {σ : Heap} {ρ : Nat → Option Nat} {I : Nat → Prop} {w : World} (h : HeapOk σ ρ I w) : ∀ b, I b → b < w.heap.size := h.base.lt
theorem Known.keep [Glb] {I I' : Nat → Prop} {w w' : World} (h : Known I w) (hi : ∀ b, I b → I' b) (hk : ∀ b, I b → w'.heap[b]? = w.heap[b]?) : Known I' w' :=
 fun g cs hg => have ⟨h1, e, p, h2⟩ := h g cs hg; ⟨hi _ h1, e, p, (hk _ h1).trans h2⟩
def Owns (σ : Heap) (ρ : Nat → Option Nat) (b : Nat) : Prop := ∃ o x, σ o = some x ∧ ρ o = some b
structure Kept (σ : Heap) (ρ : Nat → Option Nat) (I : Nat → Prop) (w : World) (σ' : Heap) (ρ' : Nat → Option Nat) (I' : Nat → Prop) (w' : World) : Prop where
 os : w'.os = w.os
 tape : w'.tape = w.tape
 output : w'.output = w.output
 size : w.heap.size ≤ w'.heap.size
 kept : ∀ b, b < w.heap.size → ¬ Owns σ ρ b → w'.heap[b]? = w.heap[b]?
 sz : ∀ b, KindB w w' b
 owned : ∀ b, Owns σ' ρ' b → Owns σ ρ b ∨ w.heap.size ≤ b
 imm : ∀ b, I b → I' b
 immNew : ∀ b, I' b → I b ∨ Owns σ ρ b ∨ w.heap.size ≤ b
structure Step (σ : Heap) (ρ : Nat → Option Nat) (I : Nat → Prop) (w : World) (σ' : Heap) (ρ' : Nat → Option Nat) (I' : Nat → Prop) (w' : World) : Prop extends Kept σ ρ I w σ' ρ' I' w' where
 ids : ∀ o b, ρ o = some b → ρ' o = some b
structure Pure (I : Nat → Prop) (w : World) (I' : Nat → Prop) (w' : World) : Prop where
 below : Below w.heap.size w w'
 imm : ∀ b, I b → I' b
 immNew : ∀ b, I' b → I b ∨ w.heap.size ≤ b
 lt : ∀ b, I' b → b < w'.heap.size
theorem cellAt_heap {w w' : World} {b : Nat} (h : w'.heap[b]? = w.heap[b]?) (o : Nat) : cellAt w' b o = cellAt w b o := by
 simp only [cellAt, World.cell?, h]
mutual
/-- The slices in it are no longer than an int tells. -/
def D.fit : D → Prop
 | .val c => okVal c = true
 | .sl xs => xs.length ≤ 9223372036854775807 ∧ D.fitR xs
def D.fitR : List (List D) → Prop
 | [] => True
 | r :: rs => D.fitL r ∧ D.fitR rs
def D.fitL : List D → Prop
 | [] => True
 | x :: r => D.fit x ∧ D.fitL r
end
theorem D.fitL_of : ∀ {r : List D}, (∀ j (h : j < r.length), D.fit r[j]) → D.fitL r
 | [], _ => by unfold D.fitL; trivial
 | x :: r, h => by unfold D.fitL; exact ⟨h 0 (by simp), D.fitL_of fun j hj => h (j + 1) (by simpa using hj)⟩
theorem D.fitR_of : ∀ {xs : List (List D)}, (∀ i (h : i < xs.length), D.fitL xs[i]) → D.fitR xs
 | [], _ => by unfold D.fitR; trivial
 | x :: r, h => by unfold D.fitR; exact ⟨h 0 (by simp), D.fitR_of fun j hj => h (j + 1) (by simpa using hj)⟩
theorem RepD.fit {I : Nat → Prop} {w : World} {x : D} {c : Value} (h : RepD I w x c) : x.fit := by
 induction h with
 | val c h => unfold D.fit; exact h
 | nil a cap => unfold D.fit D.fitR; simp
 | sl b off cap k xs f hb hc hm hk hf _ ih => unfold D.fit; exact ⟨by omega, D.fitR_of fun i hi => D.fitL_of fun j hj => ih i j hi hj⟩
theorem RepD.mono {I I' : Nat → Prop} {w w' : World} (hI : ∀ b, I b → I' b) (hw : ∀ b, I b → w'.heap[b]? = w.heap[b]?) {x : D} {c : Value} (h : RepD I w x c) : RepD I' w' x c := by
 induction h with
 | val c h => exact .val c h
 | nil a cap => exact .nil a cap
 | sl b off cap k xs f hb hc hm hk hf _ ih => exact .sl b off cap k xs f (hI b hb) hc hm hk (fun i j hi hj => by rw [cellAt_heap (hw b hb)]; exact hf i j hi hj) ih
theorem Row.mono {I I' : Nat → Prop} {w w' : World} (hI : ∀ b, I b → I' b) (hw : ∀ b, I b → w'.heap[b]? = w.heap[b]?) {b off : Nat} {cs : List D} (h : Row I w b off cs) : Row I' w' b off cs :=
 ⟨hI b h.1, fun j hj => let ⟨c, h1, h2⟩ := h.2 j hj; ⟨c, by rw [cellAt_heap (hw b h.1)]; exact h1, h2.mono hI hw⟩⟩
theorem RepV.mono {ρ ρ' : Nat → Option Nat} {I I' : Nat → Prop} {w w' : World} (hρ : ∀ o b, ρ o = some b → ρ' o = some b) (hI : ∀ b, I b → I' b) (hw : ∀ b, I b → w'.heap[b]? = w.heap[b]?)
  (hs : ∀ b, KindB w w' b)
  {x : V} {c : Value} (h : RepV ρ I w x c) : RepV ρ' I' w' x c := by
 induction h with
 | any c => exact .any c
 | d h => exact .d (h.mono hI hw)
 | agg hn _ ih => exact .agg hn ih
 | tup hn _ ih => exact .tup hn ih
 | ptr h hb => obtain ⟨c, e, hb⟩ := hb; obtain ⟨c', h1, _⟩ := (hs _).1 _ _ hb; exact .ptr (hρ _ _ h) ⟨c', e, h1⟩
 | iptr h => exact .iptr (h.mono hI hw)
 | msl h hb hs' hl hm => obtain ⟨c', h1, h2⟩ := (hs _).1 _ _ hb; exact .msl (hρ _ _ h) h1 (by rw [h2]; exact hs') hl hm
 | fn hn _ ih => exact .fn hn ih
 | mp h hm => exact .mp (hρ _ _ h) ((hs _).2 hm)
 | ifc _ ih => exact .ifc ih
theorem Blk.lt {w : World} {b : Nat} {c : Array Value} {e : TypeId} (h : Blk w b c e) : b < w.heap.size := by
 rcases Nat.lt_or_ge b w.heap.size with h' | h'
 ·exact h'
 ·unfold Blk at h; simp [Array.getElem?_eq_none h'] at h
theorem Blk.of_eq {w w' : World} {b : Nat} {c : Array Value} {e : TypeId} (h : Blk w b c e) (hw : w'.heap[b]? = w.heap[b]?) : Blk w' b c e := by
 unfold Blk at *; rw [hw]; exact h
theorem Blk.w {w : World} {b : Nat} {c : Array Value} {e : TypeId} (h : Blk w b c e) : WBlk w b c e := ⟨_, h⟩
theorem WBlk.lt {w : World} {b : Nat} {c : Array Value} {e : TypeId} (h : WBlk w b c e) : b < w.heap.size := by
 obtain ⟨m, h⟩ := h
 rcases Nat.lt_or_ge b w.heap.size with h' | h'
 ·exact h'
 ·simp [Array.getElem?_eq_none h'] at h
theorem WBlk.of_eq {w w' : World} {b : Nat} {c : Array Value} {e : TypeId} (h : WBlk w b c e) (hw : w'.heap[b]? = w.heap[b]?) : WBlk w' b c e := by
 obtain ⟨m, h⟩ := h; exact ⟨m, hw.trans h⟩
theorem WBlk.eq {w : World} {b : Nat} {c c' : Array Value} {e e' : TypeId} (h : WBlk w b c e) (h' : Blk w b c' e') : c = c' ∧ e = e' := by
 obtain ⟨m, h⟩ := h
 have := h.symm.trans h'
 cases this; exact ⟨rfl, rfl⟩
theorem MapAt.lt {w : World} {b : Nat} {es : Array MapEntry} {cl : Nat} (h : MapAt w b es cl) : b < w.heap.size := by
 rcases Nat.lt_or_ge b w.heap.size with h' | h'
 ·exact h'
 ·unfold MapAt at h; simp [Array.getElem?_eq_none h'] at h
theorem BlkX.lt {w : World} {b : Nat} {c : Array Value} {e : TypeId} {x : Own} (h : BlkX w b c e x) : b < w.heap.size := by
 rcases h with h | ⟨_, ⟨es, cl, h, _⟩, _⟩
 ·exact h.lt
 ·exact h.lt
theorem BlkX.of_eq {w w' : World} {b : Nat} {c : Array Value} {e : TypeId} {x : Own} (h : BlkX w b c e x) (hw : w'.heap[b]? = w.heap[b]?) : BlkX w' b c e x := by
 rcases h with h | ⟨h1, ⟨es, cl, h2, h3⟩, h4⟩
 ·exact .inl (h.of_eq hw)
 ·exact .inr ⟨h1, ⟨es, cl, hw.trans h2, h3⟩, h4⟩
theorem BlkX.blk {w : World} {b : Nat} {c : Array Value} {e : TypeId} {x : Own} (h : BlkX w b c e x) (hb : IsBlk w b) : Blk w b c e := by
 rcases h with h | ⟨_, ⟨es, cl, h, _⟩, _⟩
 ·exact h
 ·obtain ⟨c', e', m, hb⟩ := hb; have : some (Go.Obj.map es cl) = some (Go.Obj.cells c' e' m) := h.symm.trans hb; cases this
theorem IsBlk.of_eq {w w' : World} {b : Nat} (h : IsBlk w b) (hw : w'.heap[b]? = w.heap[b]?) : IsBlk w' b := by obtain ⟨c, e, h⟩ := h; exact ⟨c, e, h.of_eq hw⟩
theorem KindB.of_eq {w w' : World} {b : Nat} (hw : w'.heap[b]? = w.heap[b]?) : KindB w w' b := ⟨fun c _ h => ⟨c, h.of_eq hw, rfl⟩, fun ⟨es, cl, h⟩ => ⟨es, cl, hw.trans h⟩⟩
theorem KindB.of_new {w w' : World} {b : Nat} (hb : w.heap.size ≤ b) : KindB w w' b := ⟨fun _ _ h => absurd h.lt (by omega), fun ⟨_, _, h⟩ => absurd h.lt (by omega)⟩
theorem KindB.blk {w w' : World} {b : Nat} (h : KindB w w' b) (hb : IsBlk w b) : IsBlk w' b := by obtain ⟨c, e, hb⟩ := hb; obtain ⟨c', h1, _⟩ := h.1 c e hb; exact ⟨c', e, h1⟩
section steps
variable {σ σ' σ'' : Heap} {ρ ρ' ρ'' : Nat → Option Nat} {I I' I'' : Nat → Prop} {w w' w'' : World}
theorem HeapOk.notOwned [Glb] (h : HeapOk σ ρ I w) {b : Nat} (hb : I b) : ¬ Owns σ ρ b := by
 rintro ⟨o, x, ho, hr⟩
 obtain ⟨b', c, e, h1, _, _, h2, _⟩ := h.own o x ho
 rw [hr] at h1; cases h1; exact h2 hb
theorem HeapOk.owns_lt [Glb] (h : HeapOk σ ρ I w) {b : Nat} (hb : Owns σ ρ b) : b < w.heap.size := by
 obtain ⟨o, x, ho, hr⟩ := hb
 obtain ⟨b', c, e, h1, h2, _⟩ := h.own o x ho
 rw [hr] at h1; cases h1
 exact h2.lt
theorem Step.rep [Glb] (hs : Step σ ρ I w σ' ρ' I' w') (h : HeapOk σ ρ I w) {x : V} {c : Value} (hx : RepV ρ I w x c) : RepV ρ' I' w' x c :=
 hx.mono hs.ids hs.imm (fun b hb => hs.kept b (h.lt b hb) (h.notOwned hb)) hs.sz
theorem Kept.refl (σ : Heap) (ρ : Nat → Option Nat) (I : Nat → Prop) (w : World) : Kept σ ρ I w σ ρ I w :=
 ⟨rfl, rfl, rfl, Nat.le_refl _, fun _ _ _ => rfl, fun _ => .of_eq rfl, fun _ h => .inl h, fun _ h => h, fun _ h => .inl h⟩
theorem Step.refl (σ : Heap) (ρ : Nat → Option Nat) (I : Nat → Prop) (w : World) : Step σ ρ I w σ ρ I w := ⟨Kept.refl σ ρ I w, fun _ _ h => h⟩
theorem Kept.trans (a : Kept σ ρ I w σ' ρ' I' w') (b : Kept σ' ρ' I' w' σ'' ρ'' I'' w'') : Kept σ ρ I w σ'' ρ'' I'' w'' where
 os := b.os.trans a.os
 tape := b.tape.trans a.tape
 output := b.output.trans a.output
 size := Nat.le_trans a.size b.size
 kept := fun k hk hn => by
  rw [b.kept k (Nat.lt_of_lt_of_le hk a.size) (fun ho => (a.owned k ho).elim hn (fun h => by omega)), a.kept k hk hn]
 sz := fun k => ⟨fun c e h => by
  obtain ⟨c', h1, h2⟩ := (a.sz k).1 c e h
  obtain ⟨c'', h3, h4⟩ := (b.sz k).1 c' e h1
  exact ⟨c'', h3, h4.trans h2⟩, fun h => (b.sz k).2 ((a.sz k).2 h)⟩
 owned := fun k hk => (b.owned k hk).elim (a.owned k) (fun h => .inr (Nat.le_trans a.size h))
 imm := fun k hk => b.imm k (a.imm k hk)
 immNew := fun k hk => by
  rcases b.immNew k hk with h | h | h
  ·exact a.immNew k h
  ·rcases a.owned k h with h | h
   ·exact .inr (.inl h)
   ·exact .inr (.inr h)
  ·exact .inr (.inr (Nat.le_trans a.size h))
theorem Step.trans (a : Step σ ρ I w σ' ρ' I' w') (b : Step σ' ρ' I' w' σ'' ρ'' I'' w'') : Step σ ρ I w σ'' ρ'' I'' w'' := ⟨a.toKept.trans b.toKept, fun o k h => b.ids o k (a.ids o k h)⟩
theorem Pure.step (p : Pure I w I' w') : Step σ ρ I w σ ρ I' w' where
 os := p.below.os
 tape := p.below.tape
 output := p.below.output
 size := p.below.size
 kept := fun b hb _ => p.below.block b hb
 sz := fun _ => ⟨fun c _ h => ⟨c, h.of_eq (p.below.block _ h.lt), rfl⟩, fun ⟨es, cl, h⟩ => ⟨es, cl, (p.below.block _ h.lt).trans h⟩⟩
 owned := fun _ h => .inl h
 imm := p.imm
 immNew := fun b h => (p.immNew b h).elim .inl (fun h => .inr (.inr h))
 ids := fun _ _ h => h
theorem Base.pure [Glb] (h : Base I w) (p : Pure I w I' w') : Base I' w' := ⟨p.lt, h.known.keep p.imm fun b hb => p.below.block b (h.lt b hb)⟩
theorem Base.up [Glb] (h : Base I w) (hi : ∀ b, I b → I' b) (lt : ∀ b, I' b → b < w.heap.size) : Base I' w := ⟨lt, h.known.keep hi fun _ _ => rfl⟩
theorem HeapOk.keep [Glb] (h : HeapOk σ ρ I w) (k : Kept σ ρ I w σ' ρ' I' w') (lt : ∀ b, I' b → b < w'.heap.size) : Base I' w' :=
 ⟨lt, h.base.known.keep k.imm fun b hb => k.kept b (h.lt b hb) fun ⟨o, x, h1, h2⟩ => by
  obtain ⟨b', c, e, h3, _, _, h4, _⟩ := h.own o x h1
  rw [h2] at h3; cases h3; exact h4 hb⟩
theorem HeapOk.pure [Glb] (h : HeapOk σ ρ I w) (p : Pure I w I' w') : HeapOk σ ρ I' w' where
 own := fun o x ho => by
  obtain ⟨b, c, e, h1, h2, h3, h4, h5⟩ := h.own o x ho
  have hb : b < w.heap.size := h.owns_lt ⟨o, x, ho, h1⟩
  refine ⟨b, c, e, h1, h2.of_eq (p.below.block b hb), h3, fun hI => (p.immNew b hI).elim h4 (fun h => by omega), fun i hi => ⟨(h5 i hi).1, fun j hj => ?_⟩⟩
  exact (p.step (σ := σ) (ρ := ρ)).rep h ((h5 i hi).2 j hj)
 inj := h.inj
 base := h.base.pure p
theorem Pure.refl (h : ∀ b, I b → b < w.heap.size) : Pure I w I w := ⟨Below.refl _ _, fun _ h => h, fun _ h => .inl h, h⟩
theorem Pure.trans (a : Pure I w I' w') (b : Pure I' w' I'' w'') : Pure I w I'' w'' :=
 ⟨a.below.trans (b.below.mono a.below.size), fun k h => b.imm k (a.imm k h), fun k h => (b.immNew k h).elim (a.immNew k) (fun h => .inr (Nat.le_trans a.below.size h)), b.lt⟩
theorem HeapOk.forget [Glb] (h : HeapOk σ ρ I w) (hs : ∀ o x, σ' o = some x → σ o = some x) : HeapOk σ' ρ I w :=
 ⟨fun o x ho => h.own o x (hs o x ho), fun o o' x x' b h1 h2 => h.inj o o' x x' b (hs _ _ h1) (hs _ _ h2), h.base⟩
theorem Kept.owns (h : Kept σ ρ I w σ' ρ' I' w') (hs : ∀ b, Owns σ'' ρ'' b → Owns σ' ρ' b) : Kept σ ρ I w σ'' ρ'' I' w' :=
 { h with owned := fun b hb => h.owned b (hs b hb) }
theorem Kept.unforget (h : Kept σ ρ I w σ' ρ' I' w') {σ0 : Heap} (hs : ∀ o x, σ o = some x → σ0 o = some x) : Kept σ0 ρ I w σ' ρ' I' w' :=
 have up : ∀ b, Owns σ ρ b → Owns σ0 ρ b := fun _ ⟨o, x, h1, h2⟩ => ⟨o, x, hs o x h1, h2⟩
 { h with kept := fun b hb hn => h.kept b hb fun ho => hn (up b ho), owned := fun b hb => (h.owned b hb).imp (up b) id, immNew := fun b hb => (h.immNew b hb).imp id (Or.imp (up b) id) }
end steps
end Go.Iso
namespace Go.Iso
open Go Go.RowKit
set_option linter.unusedSimpArgs false
set_option linter.unusedVariables false
def constC : Value → V
 | .agg _ => .any
 | .tuple _ => .any
 | .string s => if s.size ≤ 9223372036854775807 then .d (.val (.string s)) else .any
 | c => .d (.val c)
def constV : Value → V
 | .agg cs => .agg (cs.toList.map constC)
 | c => constC c
def V.one : V → Bool
 | .any | .agg _ | .tup _ => false
 | _ => true
def evO (G : Nat → V) : Operand → V
 | .tmp t => G t
 | .const c => constV c
 | .global _ => .any
 | .func f => .fn f []
def OkOn (G : Nat → V) (ρ : Nat → Option Nat) (I : Nat → Prop) (w : World) (a : Act) (xs : Array Operand) : Prop :=
 ∀ t, Operand.tmp t ∈ xs → RepV ρ I w (G t) (a.eval (.tmp t))
section
variable {P : Program} {G : Nat → V} {σ : Heap} {ρ : Nat → Option Nat} {I : Nat → Prop} {w : World} {a : Act}
theorem constC_rep (c : Value) : RepV ρ I w (constC c) c := by
 cases c with
 | agg cs => exact .any _
 | tuple cs => exact .any _
 | string s =>
  simp only [constC]
  by_cases h : s.size ≤ 9223372036854775807
  ·rw [if_pos h]; exact .d (.val _ (by simp [okVal, h]))
  ·rw [if_neg h]; exact .any _
 | _ => exact .d (.val _ rfl)
theorem RepD.okv {c c' : Value} (h : RepD I w (.val c) c') : okVal c = true := by
 cases h with | val _ h => exact h
theorem RepD.one {x : D} {c : Value} (h : RepD I w x c) : c.oneCell' = true := by
 cases h with
 | val c h => exact okVal_one h
 | _ => rfl
theorem RepV.one {v : V} {c : Value} (h : RepV ρ I w v c) (hv : v.one = true) : c.oneCell' = true := by
 cases h with
 | d h => exact h.one
 | any | agg | tup => cases hv
 | _ => rfl
theorem constV_rep (c : Value) : RepV ρ I w (constV c) c := by
 cases c with
 | tuple cs => exact .any _
 | agg cs =>
  refine .agg (by simp) (fun i hi => ?_)
  simp only [List.length_map, Array.length_toList] at hi
  rw [List.getElem_map, Array.getElem_toList, Array.getD_eq_getD_getElem?, Array.getElem?_eq_getElem hi]
  exact constC_rep _
 | _ => simp only [constV]; exact constC_rep _
theorem evO_rep {xs : Array Operand} (h : OkOn G ρ I w a xs) {x : Operand} (hx : x ∈ xs) : RepV ρ I w (evO G x) (a.eval x) := by
 cases x with
 | tmp t => exact h t hx
 | const c => exact constV_rep c
 | global g => exact .any _
 | func f => exact .fn (vs := #[]) rfl (fun i hi => absurd hi (Nat.not_lt_zero i))
theorem RepV.val {v : V} {c d : Value} (h : RepV ρ I w v d) (e : v = .d (.val c)) : d = c := by
 cases h with
 | d h => cases e; cases h; rfl
 | _ => cases e
theorem RepV.toD {v : V} {x : D} {c : Value} (h : RepV ρ I w v c) (e : v = .d x) : RepD I w x c := by
 cases h with
 | d h => cases e; exact h
 | _ => cases e
theorem RepV.toAgg {v : V} {cs : List V} {c : Value} (h : RepV ρ I w v c) (e : v = .agg cs) : ∃ vs : Array Value, c = .agg vs ∧ vs.size = cs.length ∧ ∀ i (hi : i < cs.length), RepV ρ I w cs[i] (vs.getD i undef) := by
 cases h with
 | agg hn h => cases e; exact ⟨_, rfl, hn, h⟩
 | _ => cases e
theorem RepV.toTup {v : V} {cs : List V} {c : Value} (h : RepV ρ I w v c) (e : v = .tup cs) : ∃ vs : Array Value, c = .tuple vs ∧ vs.size = cs.length ∧ ∀ i (hi : i < cs.length), RepV ρ I w cs[i] (vs.getD i undef) := by
 cases h with
 | tup hn h => cases e; exact ⟨_, rfl, hn, h⟩
 | _ => cases e
theorem RepV.toPtr {v : V} {o k i j : Nat} {c : Value} (h : RepV ρ I w v c) (e : v = .ptr o k i j) : ∃ b, ρ o = some b ∧ IsBlk w b ∧ c = .pointer (some ⟨b, i * k + j, none⟩) := by
 cases h with
 | ptr h hb => cases e; exact ⟨_, h, hb, rfl⟩
 | _ => cases e
theorem RepV.toIptr {v : V} {cs : List D} {c : Value} (h : RepV ρ I w v c) (e : v = .iptr cs) : ∃ b off, Row I w b off cs ∧ c = .pointer (some ⟨b, off, none⟩) := by
 cases h with
 | iptr h => cases e; exact ⟨_, _, h, rfl⟩
 | _ => cases e
theorem RepV.toMsl {v : V} {o k off len : Nat} {c : Value} (h : RepV ρ I w v c) (e : v = .msl o k off len) :
  ∃ b cap cs el, ρ o = some b ∧ WBlk w b cs el ∧ (off + cap) * k ≤ cs.size ∧ len ≤ cap ∧ cap ≤ 9223372036854775807 ∧ c = .slice (some ⟨b, off * k, none⟩) len cap := by
 cases h with
 | msl h hb hs hl hm => cases e; exact ⟨_, _, _, _, h, hb, hs, hl, hm, rfl⟩
 | _ => cases e
theorem RepV.toMp {v : V} {o : Nat} {c : Value} (h : RepV ρ I w v c) (e : v = .mp o) : ∃ b, ρ o = some b ∧ IsMap w b ∧ c = .map (some b) := by
 cases h with
 | mp h hm => cases e; exact ⟨_, h, hm, rfl⟩
 | _ => cases e
theorem RepV.toIfc {v : V} {t : TypeId} {x : V} {c : Value} (h : RepV ρ I w v c) (e : v = .ifc t x) : ∃ c', c = .iface t c' ∧ RepV ρ I w x c' := by
 cases h with
 | ifc h => cases e; exact ⟨_, rfl, h⟩
 | _ => cases e
theorem RepV.toFn {v : V} {f : FuncId} {cs : List V} {c : Value} (h : RepV ρ I w v c) (e : v = .fn f cs) : ∃ vs : Array Value, c = .func (.func f) #[] vs ∧ vs.size = cs.length ∧ ∀ i (hi : i < cs.length), RepV ρ I w cs[i] (vs.getD i undef) := by
 cases h with
 | fn hn h => cases e; exact ⟨_, rfl, hn, h⟩
 | _ => cases e
theorem RepD.toSl {x : D} {xs : List (List D)} {c : Value} (h : RepD I w x c) (e : x = .sl xs) : ∃ a cap, c = .slice a xs.length cap ∧ xs.length ≤ cap + xs.length ∧
  (∀ i (hi : i < xs.length), ∃ b off k, a = some ⟨b, off, none⟩ ∧ (∀ row ∈ xs, row.length = k) ∧ Row I w b (off + i * k) xs[i]) := by
 cases h with
 | val c h => cases e
 | nil a cap => cases e; exact ⟨a, cap, rfl, by simp, fun i hi => absurd hi (by simp)⟩
 | sl b off cap k xs f hI hc hm hk hf hr =>
  cases e
  exact ⟨_, cap, rfl, by omega, fun i hi => ⟨b, off, k, rfl, hk, hI, fun j hj => ⟨f i j, hf i j hi hj, hr i j hi hj⟩⟩⟩
/-! ### The program's tables -/
def szOf (P : Program) (t : TypeId) : Option Nat := (P.info? t).map (·.size)
def aggOf (P : Program) (t : TypeId) : Option Bool := (P.underlying t).map fun | .struct _ | .array _ _ => true | _ => false
def elOf (P : Program) (t : TypeId) : Option TypeId := (P.underlying t).bind fun | .slice e => some e | _ => none
def fldOf (P : Program) (t : TypeId) (f : Nat) : Option (Nat × TypeId) := (P.underlying t).bind fun | .struct fs => (fs[f]?).map fun x => (x.offset, x.type) | _ => none
theorem run_szOf {t : TypeId} {n : Nat} (h : szOf P t = some n) : (sizeOf t).run P w = .ok n w := by
 unfold szOf at h
 cases hi : P.info? t with
 | none => simp [hi] at h
 | some i => simp only [hi, Option.map_some, Option.some.injEq] at h; simp [sizeOf, typeInfo, hi, h]
theorem run_aggOf {t : TypeId} {b : Bool} (h : aggOf P t = some b) : (isAgg t).run P w = .ok b w := by
 unfold aggOf at h
 cases hi : P.underlying t with
 | none => simp [hi] at h
 | some d =>
  simp only [hi, Option.map_some, Option.some.injEq] at h
  cases d <;> simp only at h <;> subst h <;> simp [isAgg, underlying, hi]
theorem run_elOf {t e : TypeId} (h : elOf P t = some e) : P.underlying t = some (.slice e) := by
 unfold elOf at h
 cases hi : P.underlying t with
 | none => simp [hi] at h
 | some d => cases d <;> simp [hi] at h; rw [h]
theorem run_fldOf {t : TypeId} {f off : Nat} {ft : TypeId} (h : fldOf P t f = some (off, ft)) : ∃ (fs : Array Field) (x : Field), P.underlying t = some (.struct fs) ∧ fs[f]? = some x ∧ x.offset = off ∧ x.type = ft := by
 unfold fldOf at h
 cases hi : P.underlying t with
 | none => simp [hi] at h
 | some d =>
  cases d with
  | struct fs =>
   simp only [hi, Option.bind_some] at h
   cases hx : fs[f]? with
   | none => simp [hx] at h
   | some x => simp only [hx, Option.map_some, Option.some.injEq, Prod.mk.injEq] at h; exact ⟨fs, x, rfl, hx, h.1, h.2⟩
  | _ => simp [hi] at h
/-! ### Operations that turn no block -/
def OpP [Glb] (P : Program) (op : Op) (G : Nat → V) (σ : Heap) (v : V) : Prop :=
 ∀ (o : Oper), o.op = op → ∀ ρ I a w, HeapOk σ ρ I w → OkOn G ρ I w a op.operands → ∀ (K : Act → World → Prop) (Q : Exit → Act → World → Prop),
  (∀ c I' w', Pure I w I' w' → RepV ρ I' w' v c → K (a.put o.dst c) w') → o.wp P a w K Q
theorem OpP.of_run [Glb] {op : Op} {v : V} (h : ∀ (o : Oper), o.op = op → ∀ ρ I a w, HeapOk σ ρ I w → OkOn G ρ I w a op.operands →
  ∃ c, (execOp a.eval o).run P w = .ok (.value c) w ∧ RepV ρ I w v c) : OpP P op G σ v := by
 intro o ho ρ I a w hh hg K Q hK
 obtain ⟨c, hr, hv⟩ := h o ho ρ I a w hh hg
 show o.upon P a K Q ((execOp a.eval o).run P w)
 rw [hr]
 exact hK c I w (Pure.refl hh.lt) hv
theorem OpP.move [Glb] (x : Operand) : OpP P (.move x) G σ (evO G x) :=
 .of_run fun o ho ρ I a w _ hg => ⟨a.eval x, by simp [execOp, ho], evO_rep hg (by simp [Op.operands])⟩
theorem OpP.assign [Glb] (x : Operand) : OpP P (.assign x) G σ (evO G x) :=
 .of_run fun o ho ρ I a w _ hg => ⟨a.eval x, by simp [execOp, ho], evO_rep hg (by simp [Op.operands])⟩
theorem OpP.pick [Glb] {c x y : Operand} {t : Bool} (h : evO G c = .d (.val (.bool t))) : OpP P (.pick c x y) G σ (evO G (if t then x else y)) :=
 .of_run fun o ho ρ I a w _ hg => ⟨a.eval (if t then x else y), by
  have hc := (evO_rep hg (x := c) (by simp [Op.operands])).val h
  cases t <;> simp [execOp, ho, hc, asBool], evO_rep hg (by cases t <;> simp [Op.operands])⟩
def ldV (agg : Bool) (n : Nat) (cs : List V) : Option V :=
 if agg then (if n ≤ cs.length then some (.agg (cs.take n)) else none) else cs.head?
theorem run_loadVar {t : TypeId} {agg : Bool} {n : Nat} {cs : List V} {v : V} {b off : Nat} (ha : aggOf P t = some agg) (hn : szOf P t = some n) (hv : ldV agg n cs = some v)
  (hc : ∀ j (h : j < cs.length), ∃ c, cellAt w b (off + j) = some c ∧ RepV ρ I w cs[j] c) : ∃ c, (loadVar t ⟨b, off, none⟩).run P w = .ok c w ∧ RepV ρ I w v c := by
 have hadd : ∀ j, (⟨b, off, none⟩ : Addr).add j = ⟨b, off + j, none⟩ := fun j => by
  unfold Addr.add; split
  ·next h => subst h; rfl
  ·rfl
 cases agg with
 | true =>
  simp only [ldV, if_true] at hv
  split at hv
  ·next hle =>
   cases hv
   have hf : ∀ j, ∃ c, j < cs.length → cellAt w b (off + j) = some c ∧ ∀ h : j < cs.length, RepV ρ I w cs[j] c := fun j => by
    by_cases h : j < cs.length
    ·obtain ⟨c, h1, h2⟩ := hc j h; exact ⟨c, fun _ => ⟨h1, fun _ => h2⟩⟩
    ·exact ⟨undef, fun h' => absurd h' h⟩
   let f : Nat → Value := fun j => Classical.choose (hf j)
   have hfs := fun j => Classical.choose_spec (hf j)
   refine ⟨.agg ((List.range n).map f).toArray, ?_, .agg (by simp; omega) (fun i hi => ?_)⟩
   ·simp only [loadVar, Sem.run_bind, run_aggOf ha, Result.andThen_ok, if_true, run_szOf hn]
    rw [run_loadCells w ⟨b, off, none⟩ n f (fun j hj => by rw [hadd]; exact (hfs j (by omega)).1)]
    rfl
   ·have hi' : i < n := by simp at hi; omega
    rw [List.getElem_take]
    have : (((List.range n).map f).toArray).getD i undef = f i := by simp [Array.getD_eq_getD_getElem?, hi']
    rw [this]
    exact (hfs i (by omega)).2 (by omega)
  ·cases hv
 | false =>
  simp only [ldV, Bool.false_eq_true, if_false] at hv
  cases cs with
  | nil => cases hv
  | cons x rest =>
   cases hv
   obtain ⟨c, h1, h2⟩ := hc 0 (by simp)
   refine ⟨c, ?_, h2⟩
   simp only [loadVar, Sem.run_bind, run_aggOf ha, Result.andThen_ok, Bool.false_eq_true, if_false, run_load]
   have h1' : w.cell? ⟨b, off, none⟩ = some c := h1
   rw [h1']
theorem Row.drop {b off : Nat} {cs : List D} (h : Row I w b off cs) (n : Nat) : Row I w b (off + n) (cs.drop n) :=
 ⟨h.1, fun j hj => by
  simp only [List.length_drop] at hj
  obtain ⟨c, h1, h2⟩ := h.2 (n + j) (by omega)
  exact ⟨c, by rw [Nat.add_assoc]; exact h1, by rw [List.getElem_drop]; exact h2⟩⟩
theorem run_loadIptr {cs : List D} {t : TypeId} {agg : Bool} {n : Nat} {v : V} {b off : Nat} (h : Row I w b off cs) (ha : aggOf P t = some agg) (hn : szOf P t = some n)
  (hv : ldV agg n (cs.map .d) = some v) : ∃ c, (loadVar t ⟨b, off, none⟩).run P w = .ok c w ∧ RepV ρ I w v c :=
 run_loadVar ha hn hv fun j hj => by
  simp only [List.length_map] at hj
  obtain ⟨c, h1, h2⟩ := h.2 j hj
  exact ⟨c, h1, by rw [List.getElem_map]; exact .d h2⟩
theorem OpP.load_iptr [Glb] {t : TypeId} {x : Operand} {cs : List D} {agg : Bool} {n : Nat} {v : V} (h : evO G x = .iptr cs) (ha : aggOf P t = some agg) (hn : szOf P t = some n)
  (hv : ldV agg n (cs.map .d) = some v) : OpP P (.load t x) G σ v :=
 .of_run fun o ho ρ I a w _ hg => by
  obtain ⟨b, off, hr, he⟩ := (evO_rep hg (x := x) (by simp [Op.operands])).toIptr h
  obtain ⟨c, h1, h2⟩ := run_loadIptr (ρ := ρ) hr ha hn hv
  exact ⟨c, by simp [execOp, ho, Instr.loadAt, Instr.sureAddr, he, h1], h2⟩
theorem HeapOk.cells [Glb] (hh : HeapOk σ ρ I w) {o : Nat} {x : Own} (ho : σ o = some x) {b : Nat} (hb : ρ o = some b) (hB : IsBlk w b) {i : Nat} {row : List V} (hr : x.rows[i]? = some row) (j : Nat) :
  ∀ jj (h : jj < (row.drop j).length), ∃ c, cellAt w b (i * x.k + j + jj) = some c ∧ RepV ρ I w (row.drop j)[jj] c := by
 intro jj h
 obtain ⟨b', c, e, h1, h2, h3, h4, h5⟩ := hh.own o x ho
 rw [hb] at h1; cases h1
 obtain ⟨hi, rfl⟩ := List.getElem?_eq_some_iff.1 hr
 simp only [List.length_drop] at h
 obtain ⟨hk, h6⟩ := h5 i hi
 have hj : j + jj < x.rows[i].length := by omega
 have hlt : i * x.k + (j + jj) < c.size := by
  have : (i + 1) * x.k ≤ x.rows.length * x.k := Nat.mul_le_mul_right _ hi
  rw [Nat.add_mul, Nat.one_mul] at this
  omega
 refine ⟨c.getD (i * x.k + (j + jj)) undef, ?_, by rw [List.getElem_drop]; exact h6 (j + jj) hj⟩
 rw [Nat.add_assoc]
 simp only [cellAt, World.cell?]
 have h2' : w.heap[b]? = some (Go.Obj.cells c e (0, 0)) := h2.blk hB
 rw [h2']
 simp [Array.getD_eq_getD_getElem?, hlt]
theorem OpP.load_ptr [Glb] {t : TypeId} {x : Operand} {o k i j : Nat} {ow : Own} {row : List V} {agg : Bool} {n : Nat} {v : V} (h : evO G x = .ptr o k i j) (hσ : σ o = some ow) (hk : ow.k = k) (hr : ow.rows[i]? = some row)
  (ha : aggOf P t = some agg) (hn : szOf P t = some n) (hv : ldV agg n (row.drop j) = some v) : OpP P (.load t x) G σ v :=
 .of_run fun o' ho ρ I a w hh hg => by
  obtain ⟨b, hb, hB, he⟩ := (evO_rep hg (x := x) (by simp [Op.operands])).toPtr h
  subst hk
  obtain ⟨c, h1, h2⟩ := run_loadVar (ρ := ρ) (I := I) (w := w) (b := b) (off := i * ow.k + j) ha hn hv (hh.cells hσ hb hB hr j)
  exact ⟨c, by simp [execOp, ho, Instr.loadAt, Instr.sureAddr, he, h1], h2⟩
theorem add_addr (b off n : Nat) : (⟨b, off, none⟩ : Addr).add n = ⟨b, off + n, none⟩ := by
 unfold Addr.add; split
 ·next h => subst h; rfl
 ·rfl
theorem run_fieldAt {s : TypeId} {f off n : Nat} {ft : TypeId} {b o : Nat} (hf : fldOf P s f = some (off, ft)) (hn : szOf P ft = some n) (h0 : n ≠ 0) :
  (Instr.fieldAt s (.pointer (some ⟨b, o, none⟩)) f).run P w = .ok (.pointer (some ⟨b, o + off, none⟩)) w := by
 obtain ⟨fs, x, hu, hx, rfl, rfl⟩ := run_fldOf hf
 simp [Instr.fieldAt, underlying, hu, hx, Instr.sureAddr, fieldPlace, run_szOf hn, h0, add_addr]
theorem OpP.fieldAddr_ptr [Glb] {s : TypeId} {x : Operand} {f off n : Nat} {ft : TypeId} {o k i j : Nat} (h : evO G x = .ptr o k i j) (hf : fldOf P s f = some (off, ft)) (hn : szOf P ft = some n) (h0 : n ≠ 0) :
  OpP P (.fieldAddr s x f) G σ (.ptr o k i (j + off)) :=
 .of_run fun o' ho ρ I a w _ hg => by
  obtain ⟨b, hb, hB, he⟩ := (evO_rep hg (x := x) (by simp [Op.operands])).toPtr h
  exact ⟨.pointer (some ⟨b, i * k + j + off, none⟩), by simp [execOp, ho, he, run_fieldAt hf hn h0], by rw [Nat.add_assoc]; exact .ptr hb hB⟩
theorem OpP.fieldAddr_iptr [Glb] {s : TypeId} {x : Operand} {f off n : Nat} {ft : TypeId} {cs : List D} (h : evO G x = .iptr cs) (hf : fldOf P s f = some (off, ft)) (hn : szOf P ft = some n) (h0 : n ≠ 0) :
  OpP P (.fieldAddr s x f) G σ (.iptr (cs.drop off)) :=
 .of_run fun o' ho ρ I a w _ hg => by
  obtain ⟨b, o, hr, he⟩ := (evO_rep hg (x := x) (by simp [Op.operands])).toIptr h
  exact ⟨_, by simp [execOp, ho, he, run_fieldAt hf hn h0], .iptr (hr.drop off)⟩
theorem OpP.field [Glb] {s : TypeId} {x : Operand} {f off n : Nat} {ft : TypeId} {cs : List V} {agg : Bool} {v : V} (h : evO G x = .agg cs) (hf : fldOf P s f = some (off, ft)) (hn : szOf P ft = some n) (ha : aggOf P ft = some agg)
  (hv : ldV agg n (cs.drop off) = some v) : OpP P (.field s x f) G σ v :=
 .of_run fun o' ho ρ I a w _ hg => by
  obtain ⟨vs, he, hs, hr⟩ := (evO_rep hg (x := x) (by simp [Op.operands])).toAgg h
  obtain ⟨fs, y, hu, hx, rfl, rfl⟩ := run_fldOf hf
  cases agg with
  | true =>
   simp only [ldV, if_true] at hv
   split at hv
   ·next hle =>
    cases hv
    simp only [List.length_drop] at hle
    refine ⟨.agg (vs.extract y.offset (y.offset + n)), by simp [execOp, ho, he, Instr.field, underlying, hu, hx, part, asAgg, run_aggOf ha, run_szOf hn], .agg (by simp; omega) (fun i hi => ?_)⟩
    have hi' : i < n := by simp at hi; omega
    have := hr (y.offset + i) (by simp at hi; omega)
    simp only [List.getElem_take, List.getElem_drop]
    rw [Array.getD_eq_getD_getElem?, Array.getElem?_extract, if_pos (by omega), ← Array.getD_eq_getD_getElem?]
    exact this
   ·cases hv
  | false =>
   simp only [ldV, Bool.false_eq_true, if_false] at hv
   have hlt : y.offset < cs.length := by
    rcases Nat.lt_or_ge y.offset cs.length with h | h
    ·exact h
    ·rw [List.drop_eq_nil_of_le h] at hv; cases hv
   rw [List.head?_drop, List.getElem?_eq_getElem hlt] at hv
   cases hv
   have hlt' : y.offset < vs.size := by omega
   refine ⟨vs[y.offset], by simp [execOp, ho, he, Instr.field, underlying, hu, hx, part, asAgg, run_aggOf ha, hlt'], ?_⟩
   have := hr y.offset hlt
   rw [Array.getD_eq_getD_getElem?, Array.getElem?_eq_getElem hlt'] at this
   exact this
theorem OpP.indexAddr_sl [Glb] {t e : TypeId} {x ix : Operand} {xs : List (List D)} {k : IntKind} {n : Int} {s : Nat} {row : List D} (h : evO G x = .d (.sl xs)) (hi : evO G ix = .d (.val (.int k n))) (h0 : 0 ≤ n)
  (hrow : xs[n.toNat]? = some row) (he : elOf P t = some e) (hs : szOf P e = some s) (hl : row.length = s) : OpP P (.indexAddr t x ix) G σ (.iptr row) :=
 .of_run fun o' ho ρ I a w _ hg => by
  have hx := (evO_rep hg (x := x) (by simp [Op.operands])).toD h
  have hn := (evO_rep hg (x := ix) (by simp [Op.operands])).val hi
  obtain ⟨ad, cap, hv, _, hr⟩ := hx.toSl rfl
  obtain ⟨hlt, rfl⟩ := List.getElem?_eq_some_iff.1 hrow
  obtain ⟨b, off, k', rfl, hk, hR⟩ := hr n.toNat hlt
  have : s = k' := by rw [← hl]; exact hk _ (List.getElem_mem hlt)
  subst this
  have hn' : n < (xs.length : Int) := by omega
  refine ⟨.pointer (some ⟨b, off + n.toNat * s, none⟩), ?_, .iptr hR⟩
  simp [execOp, ho, hv, hn, Instr.indexAt, asIntOf, underlying, run_elOf he, run_szOf hs, h0, hn', add_addr]
theorem OpP.indexAddr_msl [Glb] {t e : TypeId} {x ix : Operand} {o k off len : Nat} {ki : IntKind} {n : Int} (h : evO G x = .msl o k off len) (hi : evO G ix = .d (.val (.int ki n))) (h0 : 0 ≤ n) (hlt : n < (len : Int))
  (he : elOf P t = some e) (hs : szOf P e = some k) : OpP P (.indexAddr t x ix) G σ (.ptr o k (off + n.toNat) 0) :=
 .of_run fun o' ho ρ I a w _ hg => by
  obtain ⟨b, cap, cs, el, hb, hB, _, _, _, hv⟩ := (evO_rep hg (x := x) (by simp [Op.operands])).toMsl h
  have hn := (evO_rep hg (x := ix) (by simp [Op.operands])).val hi
  exact ⟨.pointer (some ⟨b, (off + n.toNat) * k + 0, none⟩), by simp [execOp, ho, hv, hn, Instr.indexAt, asIntOf, underlying, run_elOf he, run_szOf hs, h0, hlt, add_addr, Nat.add_mul], .ptr hb ⟨_, _, hB⟩⟩
def isPtr : V → Bool
 | .ptr .. | .iptr _ => true
 | _ => false
theorem OpP.nilCheck [Glb] {x : Operand} (h : isPtr (evO G x) = true) : OpP P (.nilCheck x) G σ (evO G x) :=
 .of_run fun o' ho ρ I a w _ hg => by
  have hx := evO_rep hg (x := x) (by simp [Op.operands])
  generalize evO G x = v at h hx
  cases v with
  | ptr o k i j => obtain ⟨b, hb, hB, he⟩ := hx.toPtr rfl; exact ⟨_, by simp [execOp, ho, he], .ptr hb hB⟩
  | iptr cs => obtain ⟨b, off, hr, he⟩ := hx.toIptr rfl; exact ⟨_, by simp [execOp, ho, he], .iptr hr⟩
  | _ => cases h
theorem OpP.extract [Glb] {x : Operand} {n : Nat} {cs : List V} {v : V} (h : evO G x = .tup cs) (hv : cs[n]? = some v) : OpP P (.extract x n) G σ v :=
 .of_run fun o' ho ρ I a w _ hg => by
  obtain ⟨vs, he, hs, hr⟩ := (evO_rep hg (x := x) (by simp [Op.operands])).toTup h
  obtain ⟨hn, rfl⟩ := List.getElem?_eq_some_iff.1 hv
  have hn' : n < vs.size := by omega
  refine ⟨vs[n], by simp [execOp, ho, he, Instr.extract, hn'], ?_⟩
  have := hr n hn
  rw [Array.getD_eq_getD_getElem?, Array.getElem?_eq_getElem hn'] at this
  exact this
theorem evO_reps {xs ys : Array Operand} (hg : OkOn G ρ I w a xs) (h : ∀ x ∈ ys, x ∈ xs) : ∀ i (hi : i < (ys.toList.map (evO G)).length), RepV ρ I w ((ys.toList.map (evO G))[i]) ((ys.map a.eval).getD i undef) := by
 intro i hi
 simp only [List.length_map, Array.length_toList] at hi
 rw [List.getElem_map, Array.getElem_toList, Array.getD_eq_getD_getElem?, Array.getElem?_map, Array.getElem?_eq_getElem hi]
 exact evO_rep hg (h _ (Array.getElem_mem hi))
theorem OpP.makeFunc [Glb] {f : FuncId} {caps : Array Operand} : OpP P (.makeFunc (.func f) #[] caps) G σ (.fn f (caps.toList.map (evO G))) :=
 .of_run fun o' ho ρ I a w _ hg =>
  ⟨.func (.func f) #[] (caps.map a.eval), by simp [execOp, ho, Instr.makeFunc], .fn (by simp) (evO_reps hg fun x hx => by simp [Op.operands, hx])⟩
/-! ### Reckoning on single values -/
def boolT (P : Program) (t : TypeId) : Bool := match P.underlying t with | some .bool => true | _ => false
theorem run_boolT {t : TypeId} (h : boolT P t = true) : P.underlying t = some .bool := by
 unfold boolT at h; split at h
 ·assumption
 ·cases h
def bop (P : Program) (t : TypeId) (op : BinOp) (x y : Value) : Option Value :=
 match op, x, y with
 | .shl, .int k a, .int _ b => if 0 ≤ b then some (.int k (k.wrap (a * 2 ^ (min b.toNat k.bits)))) else none
 | .shr, .int k a, .int _ b => if 0 ≤ b then some (.int k (a.fdiv (2 ^ (min b.toNat k.bits)))) else none
 | .add, .int k a, .int k' b => if k = k' then some (.int k (k.wrap (a + b))) else none
 | .sub, .int k a, .int k' b => if k = k' then some (.int k (k.wrap (a - b))) else none
 | .mul, .int k a, .int k' b => if k = k' then some (.int k (k.wrap (a * b))) else none
 | .quo, .int k a, .int k' b => if k = k' ∧ b ≠ 0 then some (.int k (k.wrap (a.tdiv b))) else none
 | .rem, .int k a, .int k' b => if k = k' ∧ b ≠ 0 then some (.int k (a.tmod b)) else none
 | .and, .int k a, .int k' b => if k = k' then some (.int k (k.wrap ((BitVec.ofInt k.bits a &&& BitVec.ofInt k.bits b).toNat))) else none
 | .or, .int k a, .int k' b => if k = k' then some (.int k (k.wrap ((BitVec.ofInt k.bits a ||| BitVec.ofInt k.bits b).toNat))) else none
 | .xor, .int k a, .int k' b => if k = k' then some (.int k (k.wrap ((BitVec.ofInt k.bits a ^^^ BitVec.ofInt k.bits b).toNat))) else none
 | .eql, .int k a, .int k' b => if k = k' then some (.bool (a == b)) else none
 | .neq, .int k a, .int k' b => if k = k' then some (.bool (a != b)) else none
 | .lss, .int k a, .int k' b => if k = k' then some (.bool (decide (a < b))) else none
 | .leq, .int k a, .int k' b => if k = k' then some (.bool (decide (a ≤ b))) else none
 | .gtr, .int k a, .int k' b => if k = k' then some (.bool (decide (a > b))) else none
 | .geq, .int k a, .int k' b => if k = k' then some (.bool (decide (a ≥ b))) else none
 | .add, .string a, .string b => if ((a.size + b.size : Nat) : Int) ≤ IntKind.i64.max then some (.string (a ++ b)) else none
 | .eql, .string a, .string b => some (.bool (a.toList == b.toList))
 | .neq, .string a, .string b => some (.bool (!(a.toList == b.toList)))
 | .lss, .string a, .string b => some (.bool (Op.bytesLess a.toList b.toList))
 | .leq, .string a, .string b => some (.bool (Op.bytesLess a.toList b.toList || a.toList == b.toList))
 | .gtr, .string a, .string b => some (.bool (!(Op.bytesLess a.toList b.toList || a.toList == b.toList)))
 | .geq, .string a, .string b => some (.bool (!Op.bytesLess a.toList b.toList))
 | .eql, .bool a, .bool b => if boolT P t = true then some (.bool (a == b)) else none
 | .neq, .bool a, .bool b => if boolT P t = true then some (.bool (!(a == b))) else none
 | _, _, _ => none
theorem equal_bool {t : TypeId} {x y : Bool} (h : P.underlying t = some .bool) : (Op.equal t (.bool x) (.bool y)).run P w = .ok (x == y) w := by
 show (Op.equalIn (9999 + 1) t (.bool x) (.bool y)).run P w = _
 unfold Op.equalIn
 simp [underlying, h]
theorem run_bop {t : TypeId} {op : BinOp} {x y c : Value} {ox oy : Operand} (h : bop P t op x y = some c) :
  ((do eqGuard op t ox oy x y; binOp op t x y) : Sem Value).run P w = .ok c w := by
 unfold bop at h
 split at h
 case h_26 => cases h
 all_goals (try split at h) <;> simp only [Option.some.injEq, reduceCtorEq] at h
 all_goals subst h
 all_goals (try rename_i hh)
 all_goals first
   | (simp [eqGuard, binOp, Op.shift, Op.intArith, Op.intDiv, Op.intBits, Op.intCmp, Op.stringOp]; done)
   | (simp [eqGuard, binOp, Op.shift, Op.intArith, Op.intDiv, Op.intBits, Op.intCmp, Op.stringOp, hh]; done)
   | (simp [eqGuard, binOp, Op.shift, Int.not_lt.mpr hh]; done)
   | (simp [eqGuard, binOp]; unfold Op.stringOp; simp only [gt_iff_lt, if_neg (Int.not_lt.mpr hh)]; rfl)
   | (simp [eqGuard, binOp, equal_bool (run_boolT hh)]; done)
theorem bop_ok {t : TypeId} {op : BinOp} {x y c : Value} (h : bop P t op x y = some c) : okVal c = true := by
 unfold bop at h
 split at h
 case h_26 => cases h
 all_goals (try split at h) <;> simp only [Option.some.injEq, reduceCtorEq] at h
 all_goals subst h
 all_goals first
  | rfl
  | (rename_i hh; simp only [okVal, ByteArray.size_append, decide_eq_true_eq]; have e : IntKind.i64.max = 9223372036854775807 := (by decide); rw [e] at hh; simp at hh; omega)
def nilT (P : Program) (t : TypeId) : Bool := match P.underlying t with | some (.slice _) => true | _ => false
theorem equal_slice {t : TypeId} {a : Addr} {n c : Nat} (h : nilT P t = true) : (Op.equal t (.slice (some a) n c) (.slice none 0 0)).run P w = .ok false w := by
 unfold nilT at h; split at h
 ·next e he =>
  show (Op.equalIn (9999 + 1) t _ _).run P w = _
  unfold Op.equalIn
  simp [underlying, he]
 ·cases h
theorem OpP.neNil [Glb] {op : BinOp} {b : Bool} {t yt : TypeId} {x y : Operand} {xs : List (List D)} (hx : evO G x = .d (.sl xs)) (h0 : xs ≠ []) (hy : evO G y = .d (.val (.slice none 0 0))) (ht : nilT P t = true) (ho : op = .eql ∧ b = false ∨ op = .neq ∧ b = true) : OpP P (.binOp op t x y yt) G σ (.d (.val (.bool b))) :=
 .of_run fun o' ho' ρ I a w _ hg => by
  have h1 := (evO_rep hg (x := x) (by simp [Op.operands])).toD hx
  have h2 := (evO_rep hg (x := y) (by simp [Op.operands])).val hy
  generalize hcx : a.eval x = cx at h1
  cases h1 with
  | nil => exact absurd rfl h0
  | sl b' off cap k xs f hI hc hm hk hf hr =>
   refine ⟨.bool b, ?_, .d (.val _ rfl)⟩
   rcases ho with ⟨rfl, rfl⟩ | ⟨rfl, rfl⟩ <;> simp [execOp, ho', h2, hcx, eqGuard, binOp, equal_slice ht]
theorem OpP.binOp [Glb] {op : BinOp} {t yt : TypeId} {x y : Operand} {c d r : Value} (hx : evO G x = .d (.val c)) (hy : evO G y = .d (.val d)) (hr : bop P t op c d = some r) : OpP P (.binOp op t x y yt) G σ (.d (.val r)) :=
 .of_run fun o' ho ρ I a w _ hg => by
  have h1 := (evO_rep hg (x := x) (by simp [Op.operands])).val hx
  have h2 := (evO_rep hg (x := y) (by simp [Op.operands])).val hy
  refine ⟨r, ?_, .d (.val r (bop_ok hr))⟩
  simp only [execOp, ho, h1, h2, Sem.run_bind, run_bop hr, Result.andThen_ok, Sem.run_pure]
def uop (op : UnOp) (x : Value) : Option Value :=
 match op, x with
 | .neg, .int k n => some (.int k (k.wrap (0 - n)))
 | .xor, .int k n => some (.int k (k.wrap ((BitVec.ofInt k.bits (if k.signed then -1 else k.max) ^^^ BitVec.ofInt k.bits n).toNat)))
 | .not, .bool b => some (.bool !b)
 | _, _ => none
theorem OpP.unOp [Glb] {op : UnOp} {t : TypeId} {x : Operand} {c r : Value} (hx : evO G x = .d (.val c)) (hr : uop op c = some r) : OpP P (.unOp op t x) G σ (.d (.val r)) :=
 .of_run fun o' ho ρ I a w _ hg => by
  have h1 := (evO_rep hg (x := x) (by simp [Op.operands])).val hx
  unfold uop at hr
  split at hr <;> simp only [Option.some.injEq, reduceCtorEq] at hr <;> subst hr <;> refine ⟨_, ?_, .d (.val _ rfl)⟩ <;> simp [execOp, ho, h1, Op.unary, Op.intArith, Op.intBits]
def cvOf (P : Program) (src dst : TypeId) (x : Value) : Option Value :=
 match P.underlying src, P.underlying dst, x with
 | some _, some (.int k), .int _ n => some (.int k (k.wrap n))
 | some _, some .string, .string s => some (.string s)
 | _, _, _ => none
theorem OpP.convert [Glb] {src dst : TypeId} {x : Operand} {c r : Value} (hx : evO G x = .d (.val c)) (hr : cvOf P src dst c = some r) : OpP P (.convert src dst x) G σ (.d (.val r)) :=
 .of_run fun o' ho ρ I a w _ hg => by
  have h1 := (evO_rep hg (x := x) (by simp [Op.operands])).val hx
  unfold cvOf at hr
  split at hr
  ·next hs hd => cases hr; refine ⟨_, ?_, .d (.val _ rfl)⟩; simp [execOp, ho, h1, Go.convert, underlying, hs, hd, Conv.intToInt]
  ·next hs hd => cases hr; refine ⟨_, ?_, .d (.val _ (((evO_rep hg (x := x) (by simp [Op.operands])).toD hx).okv))⟩; simp [execOp, ho, h1, Go.convert, underlying, hs, hd]
  ·cases hr
def lenV : V → Option Int
 | .d (.sl xs) => some xs.length
 | .d (.val (.string s)) => some s.size
 | .d (.val (.slice _ n _)) => some n
 | .msl _ _ _ len => some len
 | _ => none
def lenT (P : Program) (t : TypeId) (x : V) : Bool :=
 match P.underlying t, x with
 | some (.slice _), .d (.sl _) | some (.slice _), .d (.val (.slice ..)) | some (.slice _), .msl .. => true
 | some .string, .d (.val (.string _)) => true
 | _, _ => false
theorem run_len {t ty : TypeId} {x : V} {c : Value} {n : Int} (h : RepV ρ I w x c) (ht : lenT P t x = true) (hn : lenV x = some n) : (Builtin.len_ #[t] ty #[c]).run P w = .ok (.int .i64 n) w := by
 unfold lenT at ht
 split at ht
 ·next hu =>
  obtain ⟨a, cap, rfl, _⟩ := (h.toD rfl).toSl rfl
  simp only [lenV, Option.some.injEq] at hn; subst hn
  simp [Builtin.len_, underlying, hu, goInt]
 ·next hu =>
  rw [h.val rfl]
  simp only [lenV, Option.some.injEq] at hn; subst hn
  simp [Builtin.len_, underlying, hu, goInt]
 ·next hu =>
  obtain ⟨b, cap, cs, el, _, _, _, _, _, rfl⟩ := h.toMsl rfl
  simp only [lenV, Option.some.injEq] at hn; subst hn
  simp [Builtin.len_, underlying, hu, goInt]
 ·next hu =>
  rw [h.val rfl]
  simp only [lenV, Option.some.injEq] at hn; subst hn
  simp [Builtin.len_, underlying, hu, goInt]
 ·cases ht
theorem OpP.len [Glb] {x : Operand} {t : TypeId} {n : Int} (ht : lenT P t (evO G x) = true) (hn : lenV (evO G x) = some n) :
  OpP P (.call { callee := .builtin .len, args := #[x], argTypes := #[t] }) G σ (.d (.val (.int .i64 n))) :=
 .of_run fun o' ho ρ I a w _ hg => by
  have h1 := evO_rep hg (x := x) (by simp [Op.operands, Call.operands])
  refine ⟨.int .i64 n, ?_, .d (.val _ rfl)⟩
  simp [execOp, ho, resolve, invoke, builtin, run_len h1 ht hn]
theorem OpP.min2 [Glb] {x y : Operand} {ts : Array TypeId} {k k' : IntKind} {m n : Int} (hx : evO G x = .d (.val (.int k m))) (hy : evO G y = .d (.val (.int k' n))) :
  OpP P (.call { callee := .builtin .min, args := #[x, y], argTypes := ts }) G σ (.d (.val (.int k (if n < m then n else m)))) :=
 .of_run fun o' ho ρ I a w _ hg => by
  have h1 := (evO_rep hg (x := x) (by simp [Op.operands, Call.operands])).val hx
  have h2 := (evO_rep hg (x := y) (by simp [Op.operands, Call.operands])).val hy
  exact ⟨_, by simp [execOp, ho, resolve, invoke, builtin, h1, h2, Builtin.min_, Builtin.min2], .d (.val _ rfl)⟩
theorem OpP.max2 [Glb] {x y : Operand} {ts : Array TypeId} {k k' : IntKind} {m n : Int} (hx : evO G x = .d (.val (.int k m))) (hy : evO G y = .d (.val (.int k' n))) :
  OpP P (.call { callee := .builtin .max, args := #[x, y], argTypes := ts }) G σ (.d (.val (.int k (if n > m then n else m)))) :=
 .of_run fun o' ho ρ I a w _ hg => by
  have h1 := (evO_rep hg (x := x) (by simp [Op.operands, Call.operands])).val hx
  have h2 := (evO_rep hg (x := y) (by simp [Op.operands, Call.operands])).val hy
  exact ⟨_, by simp [execOp, ho, resolve, invoke, builtin, h1, h2, Builtin.max_, Builtin.max2], .d (.val _ rfl)⟩
def strAt (s : ByteArray) (n : Int) : Option UInt8 := if 0 ≤ n then s[n.toNat]? else none
theorem OpP.index_str [Glb] {t : TypeId} {x ix : Operand} {s : ByteArray} {k : IntKind} {n : Int} {b : UInt8} (hx : evO G x = .d (.val (.string s))) (hi : evO G ix = .d (.val (.int k n))) (hu : P.underlying t = some .string) (hb : strAt s n = some b) :
  OpP P (.index t x ix) G σ (.d (.val (.int .u8 b.toNat))) :=
 .of_run fun o' ho ρ I a w _ hg => by
  have h1 := (evO_rep hg (x := x) (by simp [Op.operands])).val hx
  have h2 := (evO_rep hg (x := ix) (by simp [Op.operands])).val hi
  refine ⟨_, ?_, .d (.val _ rfl)⟩
  unfold strAt at hb
  simp [execOp, ho, h1, h2, Instr.index, asIntOf, underlying, hu, hb]
end
end Go.Iso
namespace Go.Iso
open Go Go.RowKit
set_option linter.unusedSimpArgs false
set_option linter.unusedVariables false
def del (σ : Heap) (o : Nat) : Heap := fun m => if m = o then none else σ m
def toRow : V → List V
 | .agg cs => cs
 | v => [v]
section
variable {P : Program} {G : Nat → V} {σ σ1 : Heap} {ρ ρ' : Nat → Option Nat} {I I' : Nat → Prop} {w w' : World} {a : Act}
structure ArrRep (ρ : Nat → Option Nat) (I : Nat → Prop) (w : World) (k : Nat) (rows : List (List V)) (c : Array Value) : Prop where
 size : rows.length * k ≤ c.size
 row : ∀ i (hi : i < rows.length), rows[i].length = k
 rep : ∀ i (hi : i < rows.length) j (hj : j < rows[i].length), RepV ρ I w rows[i][j] (c.getD (i * k + j) undef)
theorem put_block [Glb] {id b : Nat} {c : Array Value} {e : TypeId} {x : Own} (hh : HeapOk σ ρ I w) (hσ : ∀ o y, σ1 o = some y → σ o = some y) (hno : ∀ o y, σ1 o = some y → ρ o ≠ some b)
  (hb : Owns σ ρ b ∨ w.heap.size ≤ b) (hid : ∀ b', ρ id = some b' → b' = b) (hI : ¬ I b)
  (hos : w'.os = w.os) (htape : w'.tape = w.tape) (hout : w'.output = w.output) (hsize : w.heap.size ≤ w'.heap.size)
  (hkept : ∀ b', b' < w.heap.size → b' ≠ b → w'.heap[b']? = w.heap[b']?) (hblk : BlkX w' b c e x) (hkind : KindB w w' b)
  (hrep : ArrRep ρ I w x.k x.rows c) :
  Step σ ρ I w (upd σ1 id (some x)) (upd ρ id (some b)) I w' ∧ HeapOk (upd σ1 id (some x)) (upd ρ id (some b)) I w' := by
 have hids : ∀ o b', ρ o = some b' → upd ρ id (some b) o = some b' := by
  intro o b' h
  by_cases ho : o = id
  ·subst ho; rw [upd_same, hid b' h]
  ·rw [upd_ne _ _ ho]; exact h
 have hsz : ∀ b', KindB w w' b' := by
  intro b'
  by_cases hbb : b' = b
  ·subst hbb; exact hkind
  ·by_cases hlt : b' < w.heap.size
   ·exact .of_eq (hkept b' hlt hbb)
   ·exact .of_new (by omega)
 have hs : Step σ ρ I w (upd σ1 id (some x)) (upd ρ id (some b)) I w' := by
  refine ⟨⟨hos, htape, hout, hsize, fun b' h1 h2 => ?_, hsz, fun b' ⟨o, y, h1, h2⟩ => ?_, fun _ h => h, fun _ h => .inl h⟩, hids⟩
  ·rcases hb with hb | hb
   ·exact hkept b' h1 (fun e => h2 (e ▸ hb))
   ·exact hkept b' h1 (by omega)
  ·by_cases ho : o = id
   ·subst ho; rw [upd_same] at h2; cases h2; exact hb
   ·rw [upd_ne _ _ ho] at h1 h2; exact .inl ⟨o, y, hσ o y h1, h2⟩
 refine ⟨hs, ?_, ?_, hh.keep hs.toKept fun b' h => Nat.lt_of_lt_of_le (hh.lt b' h) hsize⟩
 ·intro o y ho
  by_cases hoi : o = id
  ·subst hoi
   rw [upd_same] at ho; cases ho
   exact ⟨b, c, e, upd_same _ _ _, hblk, hrep.size, hI, fun i hi => ⟨hrep.row i hi, fun j hj => hs.rep hh (hrep.rep i hi j hj)⟩⟩
  ·rw [upd_ne _ _ hoi] at ho
   obtain ⟨b', c', e', h1, h2, h3, h4, h5⟩ := hh.own o y (hσ o y ho)
   have hbb : b' ≠ b := fun h => hno o y ho (h ▸ h1)
   exact ⟨b', c', e', by rw [upd_ne _ _ hoi]; exact h1, h2.of_eq (hkept b' h2.lt hbb), h3, h4, fun i hi => ⟨(h5 i hi).1, fun j hj => hs.rep hh ((h5 i hi).2 j hj)⟩⟩
 ·intro o o' y y' b' h1 h2 h3 h4
  by_cases ho : o = id <;> by_cases ho' : o' = id
  ·rw [ho, ho']
  ·subst ho; rw [upd_same] at h3; cases h3; rw [upd_ne _ _ ho'] at h2 h4; exact absurd h4 (hno o' y' h2)
  ·subst ho'; rw [upd_same] at h4; cases h4; rw [upd_ne _ _ ho] at h1 h3; exact absurd h3 (hno o y h1)
  ·rw [upd_ne _ _ ho] at h1 h3; rw [upd_ne _ _ ho'] at h2 h4
   exact hh.inj o o' y y' b' (hσ _ _ h1) (hσ _ _ h2) h3 h4
def OpW [Glb] (P : Program) (op : Op) (G : Nat → V) (σ : Heap) (N id : Nat) (v : V) (σ' : Heap) : Prop :=
 ∀ (o : Oper), o.op = op → ∀ ρ I a w, HeapOk σ ρ I w → (∀ m, N ≤ m → ρ m = none) → ρ id = none → OkOn G ρ I w a op.operands → ∀ (K : Act → World → Prop) (Q : Exit → Act → World → Prop),
  (∀ c ρ' I' w', Step σ ρ I w σ' ρ' I' w' → HeapOk σ' ρ' I' w' → (∀ x, x ≠ id → ρ' x = ρ x) → RepV ρ' I' w' v c → K (a.put o.dst c) w') → o.wp P a w K Q
theorem OpP.opW [Glb] {op : Op} {v : V} (h : OpP P op G σ v) (N id : Nat) : OpW P op G σ N id v σ :=
 fun o ho ρ I a w hh _ _ hg K Q hK => h o ho ρ I a w hh hg K Q fun c I' w' p hv => hK c ρ I' w' p.step (hh.pure p) (fun _ _ => rfl) hv
theorem OpW.of_value [Glb] {op : Op} {N id : Nat} {v : V} {σ' : Heap} (h : ∀ (o : Oper), o.op = op → ∀ ρ I a w, HeapOk σ ρ I w → ρ id = none → OkOn G ρ I w a op.operands →
  ∃ c ρ' w', (execOp a.eval o).run P w = .ok (.value c) w' ∧ Step σ ρ I w σ' ρ' I w' ∧ HeapOk σ' ρ' I w' ∧ (∀ x, x ≠ id → ρ' x = ρ x) ∧ RepV ρ' I w' v c) : OpW P op G σ N id v σ' := by
 intro o ho ρ I a w hh _ hid hg K Q hK
 obtain ⟨c, ρ', w', hr, h1, h2, h3, h4⟩ := h o ho ρ I a w hh hid hg
 show o.upon P a K Q ((execOp a.eval o).run P w)
 rw [hr]
 exact hK c ρ' I w' h1 h2 h3 h4
theorem OpW.of_skip [Glb] {op : Op} {N id : Nat} {σ' : Heap} (h : ∀ (o : Oper), o.op = op → ∀ ρ I a w, HeapOk σ ρ I w → ρ id = none → OkOn G ρ I w a op.operands →
  ∃ ρ' w', (execOp a.eval o).run P w = .ok .skip w' ∧ Step σ ρ I w σ' ρ' I w' ∧ HeapOk σ' ρ' I w' ∧ (∀ x, x ≠ id → ρ' x = ρ x)) : OpW P op G σ N id .any σ' := by
 intro o ho ρ I a w hh _ hid hg K Q hK
 obtain ⟨ρ', w', hr, h1, h2, h3⟩ := h o ho ρ I a w hh hid hg
 show o.upon P a K Q ((execOp a.eval o).run P w)
 rw [hr]
 exact hK undef ρ' I w' h1 h2 h3 (.any _)
theorem OpW.forget [Glb] {op : Op} {N id : Nat} {v : V} {σ' σ'' : Heap} (h : OpW P op G σ N id v σ') (hs : ∀ o x, σ'' o = some x → σ' o = some x) : OpW P op G σ N id v σ'' :=
 fun o ho ρ I a w hh hN hid hg K Q hK => h o ho ρ I a w hh hN hid hg K Q fun c ρ' I' w' st hh' hx hv =>
  hK c ρ' I' w' ⟨st.toKept.owns (fun b ⟨o, x, h1, h2⟩ => ⟨o, x, hs o x h1, h2⟩), st.ids⟩ (hh'.forget hs) hx hv
theorem HeapOk.new [Glb] (hh : HeapOk σ ρ I w) {id k : Nat} {rows : List (List V)} {c : Array Value} (e : TypeId) (hid : ρ id = none) (hr : ArrRep ρ I w k rows c) (n : Nat) :
  let w' : World := { w with heap := w.heap.push (.cells c e), drawn := n }
  Step σ ρ I w (upd σ id (some ⟨k, rows⟩)) (upd ρ id (some w.heap.size)) I w' ∧ HeapOk (upd σ id (some ⟨k, rows⟩)) (upd ρ id (some w.heap.size)) I w' ∧ Blk w' w.heap.size c e := by
 intro w'
 have hb : Blk w' w.heap.size c e := by simp [Blk, w']
 have := put_block (w' := w') (σ1 := σ) (id := id) (b := w.heap.size) (e := e) (x := ⟨k, rows⟩) hh (fun _ _ h => h) (fun o y h hr => by
   have := hh.owns_lt ⟨o, y, h, hr⟩; omega) (.inr (Nat.le_refl _)) (fun b' h => by rw [hid] at h; cases h) (fun h => absurd (hh.lt _ h) (by omega))
   rfl rfl rfl (by simp [w']) (fun b' h _ => by simp [w', Array.getElem?_push, Nat.ne_of_lt h]) (.inl hb) (.of_new (Nat.le_refl _)) hr
 exact ⟨this.1, this.2, hb⟩
theorem upd_ids {id b : Nat} : ∀ x, x ≠ id → upd ρ id (some b) x = ρ x := fun x h => upd_ne _ _ h
theorem ArrRep.one {vs : List V} {c : Array Value} (hs : c.size = vs.length) (h : ∀ i (hi : i < vs.length), RepV ρ I w vs[i] (c.getD i undef)) : ArrRep ρ I w vs.length [vs] c where
 size := by simp [hs]
 row := fun i hi => by simp
 rep := fun i hi j hj => by
  have : i = 0 := by simp at hi; exact hi
  subst this
  simp only [List.getElem_cons_zero] at hj ⊢
  simpa using h j hj
theorem RepV.row {v : V} {c : Value} (h : RepV ρ I w v c) (hv : v.one = true ∨ ∃ cs, v = .agg cs) : c.cells.size = (toRow v).length ∧ ∀ i (hi : i < (toRow v).length), RepV ρ I w (toRow v)[i] (c.cells.getD i undef) := by
 rcases hv with hv | ⟨cs, rfl⟩
 ·have h1 := h.one hv
  have hc : c.cells = #[c] := by cases c <;> first | rfl | (simp [Value.oneCell'] at h1)
  have ht : toRow v = [v] := by cases v <;> first | rfl | (simp [V.one] at hv)
  rw [hc, ht]
  refine ⟨rfl, fun i hi => ?_⟩
  have : i = 0 := by simp at hi; exact hi
  subst this
  exact h
 ·obtain ⟨vs, rfl, hs, hr⟩ := h.toAgg rfl
  exact ⟨hs, hr⟩
def rowOk (v : V) : Bool := v.one || (match v with | .agg _ => true | _ => false)
theorem rowOk_or {v : V} (h : rowOk v = true) : v.one = true ∨ ∃ cs, v = .agg cs := by
 cases v <;> simp_all [rowOk, V.one]
def zOf (P : Program) (t : TypeId) : Option Value := (P.info? t).bind (·.zero)
theorem run_zOf {t : TypeId} {z : Value} (h : zOf P t = some z) : (zeroValue t).run P w = .ok z w := by
 unfold zOf at h
 cases hi : P.info? t with
 | none => simp [hi] at h
 | some i => simp only [hi, Option.bind_some] at h; simp [zeroValue, typeInfo, hi, h]
theorem OpW.alloc [Glb] {t : TypeId} {z : Value} {N id : Nat} (hz : zOf P t = some z) (hk : rowOk (constV z) = true) :
  OpW P (.alloc t) G σ N id (.ptr id (toRow (constV z)).length 0 0) (upd σ id (some ⟨(toRow (constV z)).length, [toRow (constV z)]⟩)) :=
 .of_value fun o ho ρ I a w hh hid _ => by
  obtain ⟨hs, hr⟩ := (constV_rep (ρ := ρ) (I := I) (w := w) z).row (rowOk_or hk)
  obtain ⟨h1, h2, h3⟩ := hh.new t hid (ArrRep.one hs hr) w.drawn
  refine ⟨.pointer (some ⟨w.heap.size, 0, none⟩), _, _, ?_, h1, h2, upd_ids, ?_⟩
  ·simp [execOp, ho, Instr.alloc, run_zOf hz, newVar, newRow]
  ·have := RepV.ptr (ρ := upd ρ id (some w.heap.size)) (I := I) (w := { w with heap := w.heap.push (.cells z.cells t), drawn := w.drawn }) (o := id) (k := (toRow (constV z)).length) (i := 0) (j := 0) (upd_same _ _ _) ⟨_, _, h3.w⟩
   simpa using this
theorem OpW.box [Glb] {t : TypeId} {x : Operand} {N id : Nat} (hk : rowOk (evO G x) = true) :
  OpW P (.box t x) G σ N id (.ptr id (toRow (evO G x)).length 0 0) (upd σ id (some ⟨(toRow (evO G x)).length, [toRow (evO G x)]⟩)) :=
 .of_value fun o ho ρ I a w hh hid hg => by
  obtain ⟨hs, hr⟩ := (evO_rep hg (x := x) (by simp [Op.operands])).row (rowOk_or hk)
  obtain ⟨h1, h2, h3⟩ := hh.new t hid (ArrRep.one hs hr) w.drawn
  refine ⟨.pointer (some ⟨w.heap.size, 0, none⟩), _, _, ?_, h1, h2, upd_ids, ?_⟩
  ·simp [execOp, ho, Instr.box, newVar, newRow]
  ·have := RepV.ptr (ρ := upd ρ id (some w.heap.size)) (I := I) (w := { w with heap := w.heap.push (.cells (a.eval x).cells t), drawn := w.drawn }) (o := id) (k := (toRow (evO G x)).length) (i := 0) (j := 0) (upd_same _ _ _) ⟨_, _, h3.w⟩
   simpa using this
def putRow (row : List V) (j : Nat) (vs : List V) : List V := row.take j ++ vs ++ row.drop (j + vs.length)
theorem getD_toArray_append (l1 vs l2 : List Value) (i : Nat) : ((l1 ++ vs ++ l2).toArray).getD i undef = if i < l1.length then l1.getD i undef else if i < l1.length + vs.length then vs.getD (i - l1.length) undef else l2.getD (i - l1.length - vs.length) undef := by
 simp only [Array.getD_eq_getD_getElem?, List.getElem?_toArray, List.getD_eq_getElem?_getD, List.append_assoc, List.getElem?_append]
 split
 ·rfl
 ·split
  ·rw [if_pos (by omega)]
  ·rw [if_neg (by omega)]
theorem KindB.setRow {b : Nat} {c c' : Array Value} {e : TypeId} (hblk : Blk w b c e) (hs : c'.size = c.size) : KindB w (w.setRow b c') b :=
 ⟨fun c0 e0 h => by
  have h0 := setRow_heap w b c c' e (0, 0) hblk
  obtain ⟨rfl, rfl⟩ := h.eq hblk; exact ⟨c', ⟨_, h0⟩, hs⟩, fun ⟨es, cl, h⟩ => by unfold MapAt at h; unfold Blk at hblk; rw [hblk] at h; cases h⟩
theorem HeapOk.write [Glb] (hh : HeapOk σ ρ I w) {o b : Nat} {x : Own} {c : Array Value} {e : TypeId} (ho : σ o = some x) (hb : ρ o = some b) (hblk : Blk w b c e) {x' : Own} {c' : Array Value} (hs : c'.size = c.size) (hr : ArrRep ρ I w x'.k x'.rows c') :
  Step σ ρ I w (upd σ o (some x')) ρ I (w.setRow b c') ∧ HeapOk (upd σ o (some x')) ρ I (w.setRow b c') := by
 have hρ : upd ρ o (some b) = ρ := by
  funext m; by_cases h : m = o
  ·rw [h, upd_same, hb]
  ·rw [upd_ne _ _ h]
 have hσ : upd (del σ o) o (some x') = upd σ o (some x') := by
  funext m; by_cases h : m = o
  ·rw [h, upd_same, upd_same]
  ·rw [upd_ne _ _ h, upd_ne _ _ h, del, if_neg h]
 have hI : ¬ I b := fun h => hh.notOwned h ⟨o, x, ho, hb⟩
 have := put_block (w' := w.setRow b c') (σ1 := del σ o) (id := o) (b := b) (e := e) (c := c') (x := x') hh (fun m y h => by
   by_cases hm : m = o
   ·simp [del, hm] at h
   ·simpa [del, hm] using h) (fun m y h hr => by
   by_cases hm : m = o
   ·simp [del, hm] at h
   ·exact hm (hh.inj m o y x b (by simpa [del, hm] using h) ho hr hb)) (.inl ⟨o, x, ho, hb⟩) (fun b' h => by rw [hb] at h; cases h; rfl) hI
   rfl rfl rfl (by simp [World.setRow]) (fun b' h1 h2 => by simp [World.setRow, Array.getElem?_modify, Ne.symm h2]) (.inl (setRow_heap w b c c' e (0, 0) hblk))
   (.setRow hblk hs) hr
 rw [hρ, hσ] at this
 exact this
theorem HeapOk.arr [Glb] (hh : HeapOk σ ρ I w) {o b : Nat} {x : Own} (ho : σ o = some x) (hb : ρ o = some b) (hB : IsBlk w b) : ∃ c e, Blk w b c e ∧ ¬ I b ∧ ArrRep ρ I w x.k x.rows c := by
 obtain ⟨b', c, e, h1, h2, h3, h4, h5⟩ := hh.own o x ho
 rw [hb] at h1; cases h1
 exact ⟨c, e, h2.blk hB, h4, h3, fun i hi => (h5 i hi).1, fun i hi => (h5 i hi).2⟩
theorem ArrRep.put {k : Nat} {rows : List (List V)} {c : Array Value} (h : ArrRep ρ I w k rows c) {i j : Nat} {row vs : List V} (hr : rows[i]? = some row) (hj : j + vs.length ≤ k) {cs : List Value} (hc : cs.length = vs.length)
  (hv : ∀ m (hm : m < vs.length), RepV ρ I w vs[m] (cs.getD m undef)) :
  ArrRep ρ I w k (rows.set i (putRow row j vs)) (c.toList.take (i * k + j) ++ cs ++ c.toList.drop (i * k + j + cs.length)).toArray := by
 obtain ⟨hi, rfl⟩ := List.getElem?_eq_some_iff.1 hr
 have hk := h.row i hi
 have hsz := h.size
 have hle : (i + 1) * k ≤ c.size := Nat.le_trans (Nat.mul_le_mul_right _ hi) hsz
 rw [Nat.add_mul, Nat.one_mul] at hle
 have hlen : (putRow rows[i] j vs).length = k := by simp [putRow]; omega
 refine ⟨by simp; omega, fun m hm => ?_, fun m hm jj hjj => ?_⟩
 ·rw [List.getElem_set]; split
  ·exact hlen
  ·exact h.row m (by simpa using hm)
 ·have hm' : m < rows.length := by simpa using hm
  rw [getD_toArray_append]
  have hl1 : (c.toList.take (i * k + j)).length = i * k + j := by simp; omega
  rw [hl1]
  have hget : ∀ n, (c.toList).getD n undef = c.getD n undef := fun n => by simp [List.getD_eq_getElem?_getD, Array.getD_eq_getD_getElem?]
  by_cases hmi : m = i
  ·subst hmi
   have hjk : jj < k := by rw [List.getElem_set_self] at hjj; omega
   simp only [List.getElem_set_self]
   rcases Nat.lt_or_ge jj j with h1 | h1
   ·rw [if_pos (by omega)]
    have e1 : (putRow rows[m] j vs)[jj]'(by omega) = rows[m][jj]'(by omega) := by
     simp only [putRow, List.append_assoc]
     rw [List.getElem_append_left (by simp; omega), List.getElem_take]
    rw [e1]
    have e2 : (c.toList.take (m * k + j)).getD (m * k + jj) undef = c.getD (m * k + jj) undef := by
     rw [← hget, List.getD_eq_getElem?_getD, List.getD_eq_getElem?_getD, List.getElem?_take, if_pos (by omega)]
    rw [e2]; exact h.rep m hi jj (by omega)
   ·rw [if_neg (by omega)]
    rcases Nat.lt_or_ge jj (j + vs.length) with h2 | h2
    ·rw [if_pos (by omega)]
     have e1 : (putRow rows[m] j vs)[jj]'(by omega) = vs[jj - j]'(by omega) := by
      simp only [putRow, List.append_assoc]
      rw [List.getElem_append_right (by simp; omega), List.getElem_append_left (by simp; omega)]
      congr 1; simp; omega
     rw [e1, show m * k + jj - (m * k + j) = jj - j by omega]
     exact hv _ (by omega)
    ·rw [if_neg (by omega)]
     have e1 : (putRow rows[m] j vs)[jj]'(by omega) = rows[m][jj]'(by omega) := by
      simp only [putRow]
      rw [List.getElem_append_right (by simp; omega), List.getElem_drop]
      congr 1; simp; omega
     rw [e1]
     have e2 : (c.toList.drop (m * k + j + cs.length)).getD (m * k + jj - (m * k + j) - cs.length) undef = c.getD (m * k + jj) undef := by
      rw [← hget, List.getD_eq_getElem?_getD, List.getD_eq_getElem?_getD, List.getElem?_drop]
      congr 2; omega
     rw [e2]; exact h.rep m hi jj (by omega)
  ·have hjj' : jj < rows[m].length := by rw [List.getElem_set_ne (Ne.symm hmi)] at hjj; exact hjj
   have hkm := h.row m hm'
   simp only [List.getElem_set_ne (Ne.symm hmi)]
   have hrep := h.rep m hm' jj hjj'
   rcases Nat.lt_or_ge m i with h1 | h1
   ·have : (m + 1) * k ≤ i * k := Nat.mul_le_mul_right _ h1
    rw [Nat.add_mul, Nat.one_mul] at this
    rw [if_pos (by omega)]
    have e2 : (c.toList.take (i * k + j)).getD (m * k + jj) undef = c.getD (m * k + jj) undef := by
     rw [← hget, List.getD_eq_getElem?_getD, List.getD_eq_getElem?_getD, List.getElem?_take, if_pos (by omega)]
    rw [e2]; exact hrep
   ·have : (i + 1) * k ≤ m * k := Nat.mul_le_mul_right _ (by omega)
    rw [Nat.add_mul, Nat.one_mul] at this
    rw [if_neg (by omega), if_neg (by omega)]
    have e2 : (c.toList.drop (i * k + j + cs.length)).getD (m * k + jj - (i * k + j) - cs.length) undef = c.getD (m * k + jj) undef := by
     rw [← hget, List.getD_eq_getElem?_getD, List.getD_eq_getElem?_getD, List.getElem?_drop]
     congr 2; omega
    rw [e2]; exact hrep
theorem OpW.store [Glb] {t : TypeId} {x y : Operand} {o k i j n : Nat} {ow : Own} {row : List V} {N id : Nat} (h : evO G x = .ptr o k i j) (hσ : σ o = some ow) (hk : ow.k = k) (hr : ow.rows[i]? = some row)
  (hn : szOf P t = some n) (hy : rowOk (evO G y) = true) (h1 : ∀ v ∈ toRow (evO G y), v.one = true) (hl : (toRow (evO G y)).length = n) (hj : j + n ≤ k) :
  OpW P (.store t x y) G σ N id .any (upd σ o (some ⟨k, ow.rows.set i (putRow row j (toRow (evO G y)))⟩)) :=
 .of_skip fun o' ho ρ I a w hh hid hg => by
  subst hk
  obtain ⟨b, hb, hB, he⟩ := (evO_rep hg (x := x) (by simp [Op.operands])).toPtr h
  obtain ⟨hs, hv⟩ := (evO_rep hg (x := y) (by simp [Op.operands])).row (rowOk_or hy)
  obtain ⟨c, e, hblk, hI, hA⟩ := hh.arr hσ hb hB
  have hget : ∀ m, ((a.eval y).cells.toList).getD m undef = (a.eval y).cells.getD m undef := fun m => by simp [List.getD_eq_getElem?_getD, Array.getD_eq_getD_getElem?]
  have hA' := hA.put hr (by omega : j + (toRow (evO G y)).length ≤ ow.k) (cs := (a.eval y).cells.toList) (by simpa using hs) (fun m hm => by rw [hget]; exact hv m hm)
  obtain ⟨hi, rfl⟩ := List.getElem?_eq_some_iff.1 hr
  have hle : (i + 1) * ow.k ≤ c.size := Nat.le_trans (Nat.mul_le_mul_right _ hi) hA.size
  rw [Nat.add_mul, Nat.one_mul] at hle
  have hcl : (a.eval y).cells.toList.length = (toRow (evO G y)).length := by simpa using hs
  have hrun := run_storeCells_at (P := P) b (i * ow.k + j) e (a.eval y).cells.toList 0 c w hblk (by omega) (fun v hv' => by
   obtain ⟨m, hm, rfl⟩ := List.getElem_of_mem hv'
   have hm2 : m < (toRow (evO G y)).length := by omega
   have := (hv m hm2).one (h1 _ (List.getElem_mem hm2))
   rw [← hget, List.getD_eq_getElem?_getD, List.getElem?_eq_getElem hm] at this
   exact this)
  obtain ⟨h1', h2'⟩ := hh.write hσ hb hblk (c' := (c.toList.take (i * ow.k + j) ++ (a.eval y).cells.toList ++ c.toList.drop (i * ow.k + j + (a.eval y).cells.toList.length)).toArray) (by simp; omega) (x' := ⟨ow.k, ow.rows.set i (putRow ow.rows[i] j (toRow (evO G y)))⟩) hA'
  refine ⟨ρ, _, ?_, h1', h2', fun _ _ => rfl⟩
  have hn' : (a.eval y).cells.size = n := by omega
  have hr2 : (storeVar t ⟨b, i * ow.k + j, none⟩ (a.eval y)).run P w = .ok () (w.setRow b (c.toList.take (i * ow.k + j) ++ (a.eval y).cells.toList ++ c.toList.drop (i * ow.k + j + (a.eval y).cells.toList.length)).toArray) := by
   simp only [storeVar, Sem.run_bind, run_szOf hn, Result.andThen_ok, hn', ne_eq, not_true, if_false]
   exact hrun
  simp only [execOp, ho, he, Instr.storeAt, Instr.sureAddr, pure_bind, Sem.run_bind, hr2, Result.andThen_ok, Sem.run_pure]
end
end Go.Iso
namespace Go.Iso
open Go Go.RowKit
set_option linter.unusedSimpArgs false
set_option linter.unusedVariables false
mutual
/-- All references of a value lie in S. -/
def V.refs (S : Nat → Prop) : V → Prop
 | .any | .d _ | .iptr _ => True
 | .agg cs | .tup cs | .fn _ cs => V.refsL S cs
 | .ptr o _ _ _ | .msl o _ _ _ | .mp o => S o
 | .ifc _ v => V.refs S v
def V.refsL (S : Nat → Prop) : List V → Prop
 | [] => True
 | v :: r => V.refs S v ∧ V.refsL S r
end
section
variable {P : Program} {G : Nat → V} {σ σ' : Heap} {ρ ρ' : Nat → Option Nat} {I I' : Nat → Prop} {w w' : World} {a : Act}
theorem V.refsL_get {S : Nat → Prop} : ∀ {cs : List V}, V.refsL S cs → ∀ i (hi : i < cs.length), V.refs S cs[i]
 | [], _, i, hi => absurd hi (Nat.not_lt_zero i)
 | v :: r, h, 0, _ => by unfold V.refsL at h; exact h.1
 | v :: r, h, i + 1, hi => by unfold V.refsL at h; exact V.refsL_get h.2 i (by simpa using hi)
theorem RepV.reid {S : Nat → Prop} {v : V} {c : Value} (h : RepV ρ I w v c) (hv : v.refs S) (hS : ∀ o b, S o → ρ o = some b → ρ' o = some b) : RepV ρ' I w v c := by
 induction h with
 | any c => exact .any c
 | d h => exact .d h
 | agg hn _ ih => unfold V.refs at hv; exact .agg hn fun i hi => ih i hi (V.refsL_get hv i hi)
 | tup hn _ ih => unfold V.refs at hv; exact .tup hn fun i hi => ih i hi (V.refsL_get hv i hi)
 | ptr h hb => unfold V.refs at hv; exact .ptr (hS _ _ hv h) hb
 | mp h hm => unfold V.refs at hv; exact .mp (hS _ _ hv h) hm
 | ifc _ ih => unfold V.refs at hv; exact .ifc (ih hv)
 | iptr h => exact .iptr h
 | msl h hb hs hl hm => unfold V.refs at hv; exact .msl (hS _ _ hv h) hb hs hl hm
 | fn hn _ ih => unfold V.refs at hv; exact .fn hn fun i hi => ih i hi (V.refsL_get hv i hi)
def NoRef : Nat → Prop := fun _ => False
structure RepAll (ρ : Nat → Option Nat) (I : Nat → Prop) (w : World) (vs : List V) (cs : Array Value) : Prop where
 size : cs.size = vs.length
 rep : ∀ i (hi : i < vs.length), RepV ρ I w vs[i] (cs.getD i undef)
def Callable (P : Program) (f : FuncId) : Prop := ∀ args w, (callFunc f args).run P w = .ok (.enter f args) w
def Cn [Glb] (P : Program) (f : FuncId) (args : List V) (v : V) : Prop :=
 Callable P f ∧ ∀ I w cargs, Base I w → RepAll (fun _ => none) I w args cargs →
  Calls P f cargs w fun e w' => ∃ c I', e = .returned c ∧ Pure I w I' w' ∧ RepV (fun _ => none) I' w' v c
def CallS [Glb] (P : Program) (f : FuncId) (args : List V) (σ : Heap) (N id : Nat) (v : V) (σ' : Heap) : Prop :=
 Callable P f ∧ ∀ ρ I w cargs, HeapOk σ ρ I w → (∀ m, N ≤ m → ρ m = none) → ρ id = none → RepAll ρ I w args cargs →
  Calls P f cargs w fun e w' => ∃ c ρ' I', e = .returned c ∧ Step σ ρ I w σ' ρ' I' w' ∧ HeapOk σ' ρ' I' w' ∧ (∀ x, x ≠ id → ρ' x = ρ x) ∧ RepV ρ' I' w' v c
theorem RepAll.append {vs us : List V} {cs ds : Array Value} (h : RepAll ρ I w vs cs) (k : RepAll ρ I w us ds) : RepAll ρ I w (vs ++ us) (cs ++ ds) where
 size := by simp [h.size, k.size]
 rep := fun i hi => by
  rw [Array.getD_eq_getD_getElem?, Array.getElem?_append, h.size]
  by_cases hlt : i < vs.length
  ·rw [if_pos hlt, List.getElem_append_left hlt, ← Array.getD_eq_getD_getElem?]; exact h.rep i hlt
  ·rw [if_neg hlt, List.getElem_append_right (by omega), ← Array.getD_eq_getD_getElem?]; exact k.rep _ _
theorem exec_call {o : Oper} {x : Operand} {xs : Array Operand} {ts : Array TypeId} {f : FuncId} {caps : List V} (ho : o.op = .call { callee := .value x, args := xs, argTypes := ts })
  (hg : OkOn G ρ I w a o.op.operands) (hx : evO G x = .fn f caps) (hc : Callable P f) :
  ∃ cargs, (execOp a.eval o).run P w = .ok (.enter f cargs) w ∧ RepAll ρ I w (xs.toList.map (evO G) ++ caps) cargs := by
 obtain ⟨vs, he, hs, hr⟩ := (evO_rep hg (x := x) (by simp [ho, Op.operands, Call.operands])).toFn hx
 refine ⟨xs.map a.eval ++ vs, ?_, RepAll.append ⟨by simp, evO_reps hg fun y hy => by simp [ho, Op.operands, Call.operands, hy]⟩ ⟨hs, hr⟩⟩
 simp only [execOp, ho, resolve, he, Deferred.ofValue, invoke, Array.empty_append, pure_bind]
 exact hc _ _
/-! ### Own blocks read as data: for a call that only reads, or for good -/
inductive NilD : D → D → Prop
 | refl (x : D) : NilD x x
 | nil (a : Option Addr) (cap : Nat) : NilD (.val (.slice a 0 cap)) (.sl [])
 | sl {xs ys : List (List D)} (hl : xs.length = ys.length) (hr : ∀ i (hi : i < xs.length) (hi' : i < ys.length), xs[i].length = ys[i].length)
   (h : ∀ i j (hi : i < xs.length) (hi' : i < ys.length) (hj : j < xs[i].length) (hj' : j < ys[i].length), NilD xs[i][j] ys[i][j]) : NilD (.sl xs) (.sl ys)
theorem RepD.nilD {x y : D} (h : NilD x y) : ∀ {c : Value}, RepD I w x c → RepD I w y c := by
 induction h with
 | refl x => exact fun h => h
 | nil a cap => intro c h; cases h; exact .nil a cap
 | @sl xs ys hl hr _ ih =>
  intro c h
  cases h with
  | nil a cap =>
   have : ys = [] := List.eq_nil_of_length_eq_zero (by simpa using hl.symm)
   subst this; exact .nil a cap
  | sl b off cap k _ f hb hc hm hk hf hrr =>
   rw [hl]
   refine .sl b off cap k ys f hb (by omega) hm (fun row hm => ?_) (fun i j hi hj => ?_) (fun i j hi hj => ?_)
   ·obtain ⟨i, hi, rfl⟩ := List.getElem_of_mem hm
    rw [← hr i (by omega) hi]; exact hk _ (List.getElem_mem _)
   ·exact hf i j (by omega) (by rw [hr i (by omega) hi]; exact hj)
   ·exact ih i j (by omega) hi (by rw [hr i (by omega) hi]; exact hj) hj (hrr i j (by omega) (by rw [hr i (by omega) hi]; exact hj))
theorem NilD.trans {x y z : D} (h : NilD x y) : NilD y z → NilD x z := by
 induction h generalizing z with
 | refl x => exact fun h => h
 | nil a cap =>
  intro h
  cases h with
  | refl => exact .nil a cap
  | @sl xs ys hl hr h =>
   have : ys = [] := List.eq_nil_of_length_eq_zero (by simpa using hl.symm)
   subst this; exact .nil a cap
 | @sl xs ys hl hr h ih =>
  intro k
  cases k with
  | refl => exact .sl hl hr h
  | @sl ys zs hl' hr' h' =>
   refine .sl (hl.trans hl') (fun i hi hi' => (hr i hi (by omega)).trans (hr' i (by omega) hi')) fun i j hi hi' hj hj' => ?_
   have e := hr i hi (by omega)
   exact ih i j hi (by omega) hj (by omega) (h' i j (by omega) hi' (by omega) hj')
def NilV (v v' : V) : Prop := v = v' ∨ ∃ x y, v = .d x ∧ v' = .d y ∧ NilD x y
theorem NilV.rep [Glb] {v v' : V} (h : NilV v v') {c : Value} (hv : RepV ρ I w v c) : RepV ρ I w v' c := by
 rcases h with rfl | ⟨x, y, rfl, rfl, h⟩
 ·exact hv
 ·exact .d ((hv.toD rfl).nilD h)
theorem NilV.trans {x y : D} {v : V} (h : NilD x y) (k : NilV (.d y) v) : NilV (.d x) v := by
 rcases k with rfl | ⟨a, b, e, rfl, k⟩
 ·exact .inr ⟨x, y, rfl, rfl, h⟩
 ·cases e; exact .inr ⟨x, b, rfl, rfl, h.trans k⟩
def NilL : List D → List D → Prop
 | [], [] => True
 | x :: r, y :: s => NilD x y ∧ NilL r s
 | _, _ => False
theorem NilL.get : ∀ {r s : List D}, NilL r s → r.length = s.length ∧ ∀ j (hj : j < r.length) (hj' : j < s.length), NilD r[j] s[j]
 | [], [], _ => ⟨rfl, fun i hi => absurd hi (Nat.not_lt_zero i)⟩
 | x :: r, y :: s, h => by
  unfold NilL at h
  obtain ⟨h1, h2⟩ := NilL.get h.2
  refine ⟨by simp [h1], fun j hj hj' => ?_⟩
  cases j with
  | zero => exact h.1
  | succ j => exact h2 j (by simpa using hj) (by simpa using hj')
 | [], _ :: _, h => h.elim
 | _ :: _, [], h => h.elim
theorem NilD.one {r s : List D} (h : NilL r s) : NilD (.sl [r]) (.sl [s]) :=
 .sl rfl (fun i hi hi' => by
  have : i = 0 := by simp at hi; exact hi
  subst this; exact h.get.1) fun i j hi hi' hj hj' => by
  have : i = 0 := by simp at hi; exact hi
  subst this; exact h.get.2 j hj hj'
inductive SealD (σ : Heap) : V → D → Prop
 | d (x : D) : SealD σ (.d x) x
 | dn {x y : D} (h : NilD x y) : SealD σ (.d x) y
 | nil (a : Option Addr) (cap : Nat) : SealD σ (.d (.val (.slice a 0 cap))) (.sl [])
 | msl {o k off : Nat} {x : Own} {ds : List (List D)} (ho : σ o = some x) (hk : x.k = k) (hl : off + ds.length ≤ x.rows.length)
   (hr : ∀ i (hi : i < ds.length), (x.rows.getD (off + i) []).length = ds[i].length)
   (hs : ∀ i j (hi : i < ds.length) (hj : j < ds[i].length), SealD σ ((x.rows.getD (off + i) []).getD j .any) ds[i][j]) : SealD σ (.msl o k off ds.length) (.sl ds)
inductive SealV (σ : Heap) : V → V → Prop
 | any (v : V) : SealV σ v .any
 | same (v : V) : SealV σ v v
 | d {v : V} {x : D} (h : SealD σ v x) : SealV σ v (.d x)
 | ptr {o k i : Nat} {x : Own} {row : List V} {ds : List D} (ho : σ o = some x) (hk : x.k = k) (hr : x.rows[i]? = some row) (hl : row.length = ds.length) (h : ∀ j (hj : j < row.length) (hj' : j < ds.length), SealD σ row[j] ds[j]) : SealV σ (.ptr o k i 0) (.iptr ds)
 | agg {cs ds : List V} (hl : cs.length = ds.length) (h : ∀ i (hi : i < cs.length) (hj : i < ds.length), SealV σ cs[i] ds[i]) : SealV σ (.agg cs) (.agg ds)
 | tup {cs ds : List V} (hl : cs.length = ds.length) (h : ∀ i (hi : i < cs.length) (hj : i < ds.length), SealV σ cs[i] ds[i]) : SealV σ (.tup cs) (.tup ds)
 | fn {f : FuncId} {cs ds : List V} (hl : cs.length = ds.length) (h : ∀ i (hi : i < cs.length) (hj : i < ds.length), SealV σ cs[i] ds[i]) : SealV σ (.fn f cs) (.fn f ds)
def SealAll (σ : Heap) : List V → List V → Prop
 | [], [] => True
 | v :: r, v' :: r' => SealV σ v v' ∧ SealAll σ r r'
 | _, _ => False
theorem SealD.rep [Glb] (hh : HeapOk σ ρ I w) {v : V} {x : D} (h : SealD σ v x) : ∀ {c : Value}, RepV ρ I w v c → RepD (fun b => I b ∨ Owns σ ρ b) w x c := by
 induction h with
 | d x => exact fun hv => (hv.toD rfl).mono (fun _ h => .inl h) (fun _ _ => rfl)
 | dn h => exact fun hv => ((hv.toD rfl).nilD h).mono (fun _ h => .inl h) (fun _ _ => rfl)
 | nil a cap => intro c hv; rw [hv.val rfl]; exact .nil a cap
 | @msl o k off x ds ho hk hl hr hs ih =>
  intro c hv
  obtain ⟨b, cap, cs, el, hb, hblk, hsz, hcap, hmx, rfl⟩ := hv.toMsl rfl
  obtain ⟨c', e', hblk', hnI, hA⟩ := hh.arr ho hb ⟨_, _, hblk⟩
  subst hk
  have hrow : ∀ i (hi : i < ds.length), ds[i].length = x.k := fun i hi => by
   rw [← hr i hi, List.getD_eq_getElem?_getD, List.getElem?_eq_getElem (by omega), Option.getD_some]; exact hA.row _ _
  refine .sl b (off * x.k) cap x.k ds (fun i j => c'.getD ((off + i) * x.k + j) undef) (.inr ⟨o, x, ho, hb⟩) hcap hmx (fun row hm => ?_) (fun i j hi hj => ?_) (fun i j hi hj => ?_)
  ·obtain ⟨i, hi, rfl⟩ := List.getElem_of_mem hm; exact hrow i hi
  ·have hj' : j < x.k := by rw [← hrow i hi]; exact hj
   have hlt : (off + i) * x.k + j < c'.size := by
    have h1 : (off + i + 1) * x.k ≤ x.rows.length * x.k := Nat.mul_le_mul_right _ (by omega)
    rw [Nat.add_mul, Nat.one_mul] at h1
    have := hA.size; omega
   show w.cell? ⟨b, off * x.k + i * x.k + j, none⟩ = _
   have h2 : w.heap[b]? = some (Go.Obj.cells c' e' (0, 0)) := hblk'
   rw [← Nat.add_mul]
   simp [World.cell?, h2, Array.getD_eq_getD_getElem?, hlt]
  ·refine ih i j hi hj ?_
   have h1 : off + i < x.rows.length := by omega
   have h2 : j < x.rows[off + i].length := by rw [hA.row _ h1, ← hrow i hi]; exact hj
   have := hA.rep (off + i) h1 j h2
   have e1 : x.rows.getD (off + i) [] = x.rows[off + i] := by rw [List.getD_eq_getElem?_getD, List.getElem?_eq_getElem h1, Option.getD_some]
   have e2 : (x.rows[off + i]).getD j .any = x.rows[off + i][j] := by rw [List.getD_eq_getElem?_getD, List.getElem?_eq_getElem h2, Option.getD_some]
   rw [e1, e2]
   exact this
theorem SealV.rep [Glb] (hh : HeapOk σ ρ I w) {v v' : V} (h : SealV σ v v') : ∀ {c : Value}, RepV ρ I w v c → RepV ρ (fun b => I b ∨ Owns σ ρ b) w v' c := by
 have up : ∀ {v : V} {c : Value}, RepV ρ I w v c → RepV ρ (fun b => I b ∨ Owns σ ρ b) w v c := fun hv => hv.mono (fun _ _ h => h) (fun _ h => .inl h) (fun _ _ => rfl) (fun _ => .of_eq rfl)
 induction h with
 | any v => exact fun _ => .any _
 | same v => exact up
 | d h => exact fun hv => .d (h.rep hh hv)
 | @ptr o k i x row ds ho hk hr hl h =>
  intro c hv
  obtain ⟨b, hb, hB, rfl⟩ := hv.toPtr rfl
  obtain ⟨c', e', hblk', _, hA⟩ := hh.arr ho hb hB
  subst hk
  obtain ⟨hi, rfl⟩ := List.getElem?_eq_some_iff.1 hr
  refine .iptr ⟨.inr ⟨o, x, ho, hb⟩, fun j hj => ?_⟩
  have hj' : j < x.rows[i].length := by omega
  have hk' := hA.row i hi
  have hlt : i * x.k + j < c'.size := by
   have h1 : (i + 1) * x.k ≤ x.rows.length * x.k := Nat.mul_le_mul_right _ (by omega)
   rw [Nat.add_mul, Nat.one_mul] at h1
   have := hA.size; omega
  refine ⟨c'.getD (i * x.k + j) undef, ?_, (h j hj' hj).rep hh (hA.rep i hi j hj')⟩
  have h2 : w.heap[b]? = some (Go.Obj.cells c' e' (0, 0)) := hblk'
  simp [cellAt, World.cell?, h2, Array.getD_eq_getD_getElem?, hlt]
 | agg hl _ ih => intro c hv; obtain ⟨vs, rfl, h1, h2⟩ := hv.toAgg rfl; exact .agg (h1.trans hl) fun i hi => ih i (by omega) hi (h2 i (by omega))
 | tup hl _ ih => intro c hv; obtain ⟨vs, rfl, h1, h2⟩ := hv.toTup rfl; exact .tup (h1.trans hl) fun i hi => ih i (by omega) hi (h2 i (by omega))
 | fn hl _ ih => intro c hv; obtain ⟨vs, rfl, h1, h2⟩ := hv.toFn rfl; exact .fn (h1.trans hl) fun i hi => ih i (by omega) hi (h2 i (by omega))
theorem SealAll.get {σ : Heap} : ∀ {vs us : List V}, SealAll σ vs us → vs.length = us.length ∧ ∀ i (hi : i < vs.length) (hj : i < us.length), SealV σ vs[i] us[i]
 | [], [], _ => ⟨rfl, fun i hi => absurd hi (Nat.not_lt_zero i)⟩
 | v :: r, u :: s, h => by
  unfold SealAll at h
  obtain ⟨h1, h2⟩ := SealAll.get h.2
  refine ⟨by simp [h1], fun i hi hj => ?_⟩
  cases i with
  | zero => exact h.1
  | succ i => exact h2 i (by simpa using hi) (by simpa using hj)
 | [], _ :: _, h => h.elim
 | _ :: _, [], h => h.elim
theorem SealAll.rep [Glb] (hh : HeapOk σ ρ I w) {vs us : List V} {cs : Array Value} (h : SealAll σ vs us) (hr : RepAll ρ I w vs cs) : RepAll ρ (fun b => I b ∨ Owns σ ρ b) w us cs :=
 ⟨hr.size.trans h.get.1, fun i hi => (h.get.2 i (by rw [h.get.1]; exact hi) hi).rep hh (hr.rep i (by rw [h.get.1]; exact hi))⟩
theorem SealAll.refl {σ : Heap} : ∀ vs : List V, SealAll σ vs vs
 | [] => trivial
 | v :: r => ⟨.same v, SealAll.refl r⟩
mutual
/-- A value without slices and references. -/
def V.flat : V → Prop
 | .any | .d (.val _) => True
 | .agg cs | .tup cs => V.flatL cs
 | _ => False
def V.flatL : List V → Prop
 | [] => True
 | v :: r => V.flat v ∧ V.flatL r
end
theorem V.flatL_get : ∀ {cs : List V}, V.flatL cs → ∀ i (hi : i < cs.length), V.flat cs[i]
 | [], _, i, hi => absurd hi (Nat.not_lt_zero i)
 | v :: r, h, 0, _ => by unfold V.flatL at h; exact h.1
 | v :: r, h, i + 1, hi => by unfold V.flatL at h; exact V.flatL_get h.2 i (by simpa using hi)
theorem RepV.flat {v : V} {c : Value} (h : RepV ρ I w v c) (hv : v.flat) : RepV ρ' I' w' v c := by
 induction h with
 | any c => exact .any c
 | @d x c h =>
  cases x with
  | val c' => cases h with | val _ h => exact .d (.val _ h)
  | sl xs => unfold V.flat at hv; exact hv.elim
 | agg hn _ ih => unfold V.flat at hv; exact .agg hn fun i hi => ih i hi (V.flatL_get hv i hi)
 | tup hn _ ih => unfold V.flat at hv; exact .tup hn fun i hi => ih i hi (V.flatL_get hv i hi)
 | _ => unfold V.flat at hv; exact hv.elim
def CallA (σ : Heap) (args args' : List V) (v : V) : Prop :=
 V.refsL NoRef args' ∧ (SealAll Heap.none args args' ∨ SealAll σ args args' ∧ v.flat)
theorem OpP.call [Glb] {x : Operand} {xs : Array Operand} {ts : Array TypeId} {f : FuncId} {caps args' : List V} {v : V} (hx : evO G x = .fn f caps) (h : Cn P f args' v) (hf : CallA σ (xs.toList.map (evO G) ++ caps) args' v) :
  OpP P (.call { callee := .value x, args := xs, argTypes := ts }) G σ v := by
 intro o ho ρ I a w hh hg K Q hK
 rw [← ho] at hg
 obtain ⟨cargs, hr, hA⟩ := exec_call ho hg hx h.1
 show o.upon P a K Q ((execOp a.eval o).run P w)
 rw [hr]
 obtain ⟨hno, hs | ⟨hs, hfl⟩⟩ := hf
 ·have hn : HeapOk Heap.none ρ I w := ⟨(fun o x h => by cases h), (fun o o' x x' b h => by cases h), hh.base⟩
  have hA1 := hs.rep hn hA
  have hI : ∀ b, (I b ∨ Owns Heap.none ρ b) → I b := fun b h => h.elim (fun h => h) (fun ⟨_, _, h, _⟩ => by cases h)
  have hA' : RepAll (fun _ => none) I w args' cargs := ⟨hA1.size, fun i hi => ((hA1.rep i hi).reid (S := NoRef) (V.refsL_get hno i hi) (fun _ _ h => h.elim)).mono (fun _ _ h => h) hI (fun _ _ => rfl) (fun _ => .of_eq rfl)⟩
  refine Calls.mono (h.2 I w cargs hh.base hA') ?_
  rintro e w' ⟨c, I', rfl, hp, hv⟩
  exact hK c I' w' hp (hv.mono (fun _ _ h => by cases h) (fun _ h => h) (fun _ _ => rfl) (fun _ => .of_eq rfl))
 ·have hA1 := hs.rep hh hA
  have hA' : RepAll (fun _ => none) (fun b => I b ∨ Owns σ ρ b) w args' cargs := ⟨hA1.size, fun i hi => (hA1.rep i hi).reid (S := NoRef) (V.refsL_get hno i hi) (fun _ _ h => h.elim)⟩
  refine Calls.mono (h.2 _ w cargs (hh.base.up (fun _ h => .inl h) fun b hb => hb.elim (hh.lt b) (hh.owns_lt)) hA') ?_
  rintro e w' ⟨c, I', rfl, hp, hv⟩
  exact hK c I w' ⟨hp.below, fun _ h => h, fun _ h => .inl h, fun b hb => Nat.lt_of_lt_of_le (hh.lt b hb) hp.below.size⟩ (hv.flat hfl)
theorem OpW.call [Glb] {x : Operand} {xs : Array Operand} {ts : Array TypeId} {f : FuncId} {caps : List V} {v : V} {N id : Nat} (hx : evO G x = .fn f caps) (h : CallS P f (xs.toList.map (evO G) ++ caps) σ N id v σ') :
  OpW P (.call { callee := .value x, args := xs, argTypes := ts }) G σ N id v σ' := by
 intro o ho ρ I a w hh hN hid hg K Q hK
 rw [← ho] at hg
 obtain ⟨cargs, hr, hA⟩ := exec_call ho hg hx h.1
 show o.upon P a K Q ((execOp a.eval o).run P w)
 rw [hr]
 refine Calls.mono (h.2 ρ I w cargs hh hN hid hA) ?_
 rintro e w' ⟨c, ρ', I', rfl, h1, h2, h3, h4⟩
 exact hK c ρ' I' w' h1 h2 h3 h4
/-! ### Frames -/
structure St where
 fr : Nat → V
 σ : Heap
 n : Nat
class Dfs where
 l : List Deferred
instance (priority := low) dfs0 : Dfs := ⟨[]⟩
structure Conc [Glb] [Dfs] (N B : Nat) (st : St) (ρ : Nat → Option Nat) (I : Nat → Prop) (a : Act) (w : World) : Prop where
 heap : HeapOk st.σ ρ I w
 fresh : ∀ o, st.n ≤ o → ρ o = none
 frame : ∀ t, RepV ρ I w (st.fr t) (a.eval (.tmp t))
 defers : a.defers = Dfs.l
 size : a.tmps.size = N
 base : B ≤ st.n
def putF (fr : Nat → V) (d : Option Tmp) (v : V) : Nat → V := match d with | some t => upd fr t v | none => fr
def dstOk (N : Nat) (d : Option Tmp) : Bool := match d with | some t => decide (t < N) | none => true
theorem frame_put {N : Nat} {fr : Nat → V} (h : ∀ t, RepV ρ I w (fr t) (a.eval (.tmp t))) (hN : a.tmps.size = N) {d : Option Tmp} {v : V} {c : Value} (hd : dstOk N d = true) (hv : RepV ρ I w v c) :
  ∀ t, RepV ρ I w (putF fr d v t) ((a.put d c).eval (.tmp t)) := by
 intro t
 cases d with
 | none => exact h t
 | some s =>
  simp only [dstOk, decide_eq_true_eq] at hd
  simp only [putF, Act.put, Act.eval]
  by_cases ht : t = s
  ·subst ht
   rw [upd_same, Array.getD_eq_getD_getElem?, Array.getElem?_setIfInBounds_self_of_lt (hN ▸ hd)]; exact hv
  ·rw [upd_ne _ _ ht, Array.getD_eq_getD_getElem?, Array.getElem?_setIfInBounds_ne (Ne.symm ht), ← Array.getD_eq_getD_getElem?]; exact h t
theorem put_size {d : Option Tmp} {c : Value} : (a.put d c).tmps.size = a.tmps.size := by cases d <;> simp [Act.put]
theorem put_defers {d : Option Tmp} {c : Value} : (a.put d c).defers = a.defers := by cases d <;> rfl
structure Frame (B : Nat) (σ : Heap) (ρ : Nat → Option Nat) (I : Nat → Prop) (w : World) (σ' : Heap) (ρ' : Nat → Option Nat) (I' : Nat → Prop) (w' : World) : Prop extends Kept σ ρ I w σ' ρ' I' w' where
 low : ∀ o, o < B → ρ' o = ρ o
theorem Frame.refl {B : Nat} : Frame B σ ρ I w σ ρ I w := ⟨Kept.refl _ _ _ _, fun _ _ => rfl⟩
theorem Frame.trans {B : Nat} {σ'' : Heap} {ρ'' : Nat → Option Nat} {I'' : Nat → Prop} {w'' : World} (a : Frame B σ ρ I w σ' ρ' I' w') (b : Frame B σ' ρ' I' w' σ'' ρ'' I'' w'') : Frame B σ ρ I w σ'' ρ'' I'' w'' :=
 ⟨a.toKept.trans b.toKept, fun o h => (b.low o h).trans (a.low o h)⟩
def AW [Glb] [Dfs] (P : Program) (N B : Nat) (c : Code) (Q : Exit → St → Prop) (st : St) : Prop :=
 ∀ ρ I a w, Conc N B st ρ I a w → c.wp P (fun e a' w' => ∃ st' ρ' I', Q e st' ∧ Conc N B st' ρ' I' a' w' ∧ Frame B st.σ ρ I w st'.σ ρ' I' w') a w
variable {N B : Nat} {Q Q' : Exit → St → Prop} {st : St}
theorem AW.mono [Glb] [Dfs] {c : Code} (h : AW P N B c Q st) (hq : ∀ e st, Q e st → Q' e st) : AW P N B c Q' st :=
 fun ρ I a w hc => wp_mono (h ρ I a w hc) fun e a' w' ⟨st', ρ', I', h1, h2, h3⟩ => ⟨st', ρ', I', hq _ _ h1, h2, h3⟩
theorem AW.skip [Glb] [Dfs] (h : Q .normal st) : AW P N B .skip Q st := fun ρ I a w hc => wp_skip ⟨st, ρ, I, h, hc, Frame.refl⟩
theorem AW.exit [Glb] [Dfs] {id : Nat} (h : Q (.exit id) st) : AW P N B (.exit id) Q st := fun ρ I a w hc => wp_exit ⟨st, ρ, I, h, hc, Frame.refl⟩
theorem AW.ret [Glb] [Dfs] (h : Q .ret st) : AW P N B .ret Q st := fun ρ I a w hc => wp_ret ⟨st, ρ, I, h, hc, Frame.refl⟩
def thenQ (K : St → Prop) (Q : Exit → St → Prop) : Exit → St → Prop
 | .normal, st => K st
 | e, st => Q e st
def blockQ (id : Nat) (Q : Exit → St → Prop) : Exit → St → Prop
 | .exit i, st => if i = id then Q .normal st else Q (.exit i) st
 | e, st => Q e st
theorem AW.seq [Glb] [Dfs] {x y : Code} (h : AW P N B x (thenQ (fun s => AW P N B y Q s) Q) st) : AW P N B (.seq x y) Q st := by
 intro ρ I a w hc
 refine wp_seq (wp_mono (h ρ I a w hc) ?_)
 rintro e a' w' ⟨st', ρ', I', h1, h2, h3⟩
 cases e with
 | normal =>
  refine wp_mono (h1 ρ' I' a' w' h2) ?_
  rintro e a'' w'' ⟨st'', ρ'', I'', k1, k2, k3⟩
  exact ⟨st'', ρ'', I'', k1, k2, h3.trans k3⟩
 | _ => exact ⟨st', ρ', I', h1, h2, h3⟩
theorem AW.cond [Glb] [Dfs] {c : Operand} {x y : Code} {t : Bool} (hc : evO st.fr c = .d (.val (.bool t))) (h1 : t = true → AW P N B x Q st) (h2 : t = false → AW P N B y Q st) : AW P N B (.cond c x y) Q st := by
 intro ρ I a w hcc
 have he : a.eval c = .bool t := (evO_rep (xs := #[c]) (fun t _ => hcc.frame t) (by simp)).val hc
 refine wp_cond he ?_
 cases t with
 | true => exact h1 rfl ρ I a w hcc
 | false => exact h2 rfl ρ I a w hcc
theorem AW.block [Glb] [Dfs] {id : Nat} {c : Code} (h : AW P N B c (blockQ id Q) st) : AW P N B (.block id c) Q st := by
 intro ρ I a w hc
 refine wp_block (wp_mono (h ρ I a w hc) ?_)
 rintro e a' w' ⟨st', ρ', I', h1, h2, h3⟩
 cases e with
 | exit i =>
  simp only [blockQ] at h1
  simp only [Exit.inBlock]
  split at h1
  ·next he => rw [if_pos he]; exact ⟨st', ρ', I', h1, h2, h3⟩
  ·next he => rw [if_neg he]; exact ⟨st', ρ', I', h1, h2, h3⟩
 | _ => exact ⟨st', ρ', I', h1, h2, h3⟩
theorem AW.loop [Glb] [Dfs] {c : Code} (J : Nat → St → Prop) {m : Nat} (h0 : J m st) (hr : ∀ m st, J m st → AW P N B c (thenQ (fun s => ∃ m', m' < m ∧ J m' s) Q) st) : AW P N B (.loop c) Q st := by
 intro ρ I a w hc b k cs
 have key : ∀ m st ρ I a w, J m st → Conc N B st ρ I a w →
   ∃ e a' w', (∃ st' ρ' I', Q e st' ∧ Conc N B st' ρ' I' a' w' ∧ Frame B st.σ ρ I w st'.σ ρ' I' w') ∧ Arrives P (lone (b.at a (.code c :: .inLoop c :: k)) cs w) b k cs e a' w' := by
  intro m
  induction m using Nat.strongRecOn with
  | _ m ih =>
   intro st ρ I a w hJ hc
   obtain ⟨e, a₁, w₁, ⟨st', ρ', I', h1, h2, h3⟩, harr⟩ := hr m st hJ ρ I a w hc b (.inLoop c :: k) cs
   cases e with
   | normal =>
    obtain ⟨m', hlt, hJ'⟩ := h1
    obtain ⟨e₂, a₂, w₂, ⟨st2, ρ2, I2, k1, k2, k3⟩, harr₂⟩ := ih m' hlt st' ρ' I' a₁ w₁ hJ' h2
    exact ⟨e₂, a₂, w₂, ⟨st2, ρ2, I2, k1, k2, h3.trans k3⟩, .of_steps (Steps.trans harr (.one step_inLoop)) harr₂⟩
   | exit id => exact ⟨_, a₁, w₁, ⟨st', ρ', I', h1, h2, h3⟩, .pass (x := .inLoop c) rfl (fun _ _ => .inl (by simp)) harr⟩
   | goto l => exact ⟨_, a₁, w₁, ⟨st', ρ', I', h1, h2, h3⟩, .pass (x := .inLoop c) rfl (fun _ _ => .inl (by simp)) harr⟩
   | ret => exact ⟨_, a₁, w₁, ⟨st', ρ', I', h1, h2, h3⟩, .pass (x := .inLoop c) rfl (fun _ _ => .inl (by simp)) harr⟩
   | panic ch => exact ⟨_, a₁, w₁, ⟨st', ρ', I', h1, h2, h3⟩, .pass (x := .inLoop c) rfl (fun _ _ => .inl (by simp)) harr⟩
   | outgrown => exact ⟨_, a₁, w₁, ⟨st', ρ', I', h1, h2, h3⟩, .pass (x := .inLoop c) rfl (fun _ _ => .inl (by simp)) harr⟩
 obtain ⟨e, a', w', hq, harr⟩ := key m st ρ I a w h0 hc
 exact ⟨e, a', w', hq, .of_steps (.one step_loop) harr⟩
structure Weak (st st' : St) : Prop where
 n : st'.n ≤ st.n
 fr : ∀ t, st'.fr t = .any ∨ (st'.fr t = st.fr t ∧ (st'.fr t).refs (· < st'.n))
 σ : ∀ o x, st'.σ o = some x → st.σ o = some x ∧ o < st'.n ∧ ∀ r ∈ x.rows, ∀ v ∈ r, v.refs (· < st'.n)
theorem Conc.weak [Glb] [Dfs] {st st' : St} (hc : Conc N B st ρ I a w) (h : Weak st st') (hB : B ≤ st'.n) : Conc N B st' (fun o => if o < st'.n then ρ o else none) I a w ∧ (∀ b, Owns st'.σ (fun o => if o < st'.n then ρ o else none) b → Owns st.σ ρ b) := by
 have hid : ∀ o b, o < st'.n → ρ o = some b → (fun o => if o < st'.n then ρ o else none) o = some b := fun o b h1 h2 => by simp only [h1, if_true]; exact h2
 refine ⟨⟨⟨fun o x ho => ?_, fun o o' x x' b h1 h2 h3 h4 => ?_, hc.heap.base⟩, fun o ho => if_neg (by omega), fun t => ?_, hc.defers, hc.size, hB⟩, ?_⟩
 ·obtain ⟨h1, h2, h3⟩ := h.σ o x ho
  obtain ⟨b, c, e, k1, k2, k3, k4, k5⟩ := hc.heap.own o x h1
  exact ⟨b, c, e, hid o b h2 k1, k2, k3, k4, fun i hi => ⟨(k5 i hi).1, fun j hj => ((k5 i hi).2 j hj).reid (h3 _ (List.getElem_mem hi) _ (List.getElem_mem hj)) hid⟩⟩
 ·obtain ⟨h5, h6, _⟩ := h.σ o x h1
  obtain ⟨h7, h8, _⟩ := h.σ o' x' h2
  simp only [h6, h8, if_true] at h3 h4
  exact hc.heap.inj o o' x x' b h5 h7 h3 h4
 ·rcases h.fr t with h1 | ⟨h1, h2⟩
  ·rw [h1]; exact .any _
  ·exact RepV.reid (h1 ▸ hc.frame t) h2 hid
 ·rintro b ⟨o, x, h1, h2⟩
  obtain ⟨h3, h4, _⟩ := h.σ o x h1
  simp only [h4, if_true] at h2
  exact ⟨o, x, h3, h2⟩
theorem AW.weak [Glb] [Dfs] {c : Code} {st st' : St} (h : Weak st st') (hB : B ≤ st'.n) (k : AW P N B c Q st') : AW P N B c Q st := by
 intro ρ I a w hc
 obtain ⟨h1, h2⟩ := hc.weak h hB
 refine wp_mono (k _ I a w h1) ?_
 rintro e a' w' ⟨st2, ρ', I', k1, k2, k3⟩
 have hown : ∀ b, ¬ Owns st.σ ρ b → ¬ Owns st'.σ (fun o => if o < st'.n then ρ o else none) b := fun b hn ho => hn (h2 b ho)
 refine ⟨st2, ρ', I', k1, k2, ⟨⟨k3.os, k3.tape, k3.output, k3.size, fun b hb hn => k3.kept b hb (hown b hn), k3.sz, fun b hb => (k3.owned b hb).imp (h2 b) id, k3.imm, fun b hb => ?_⟩, fun o ho => ?_⟩⟩
 ·rcases k3.immNew b hb with h | h | h
  ·exact .inl h
  ·exact .inr (.inl (h2 b h))
  ·exact .inr (.inr h)
 ·rw [k3.low o ho]; simp only [show o < st'.n by omega, if_true]
def WeakQ (B : Nat) (K : St → Prop) (st : St) : Prop := ∃ st', Weak st st' ∧ B ≤ st'.n ∧ K st'
theorem AW.loopw [Glb] [Dfs] {c : Code} (J : Nat → St → Prop) {m : Nat} (h0 : WeakQ B (J m) st) (hr : ∀ m st, J m st → AW P N B c (thenQ (WeakQ B fun s => ∃ m', m' < m ∧ J m' s) Q) st) : AW P N B (.loop c) Q st := by
 obtain ⟨st0, h1, h2, h3⟩ := h0
 refine AW.weak h1 h2 (AW.loop J h3 fun m st hJ => ?_)
 intro ρ I a w hc
 refine wp_mono (hr m st hJ ρ I a w hc) ?_
 rintro e a' w' ⟨st', ρ', I', k1, k2, k3⟩
 cases e with
 | normal =>
  obtain ⟨st2, l1, l2, l3⟩ := k1
  obtain ⟨m1, m2⟩ := k2.weak l1 l2
  exact ⟨st2, _, I', l3, m1, ⟨k3.toKept.owns m2, fun o ho => by simp only [show o < st2.n by omega, if_true]; exact k3.low o ho⟩⟩
 | _ => exact ⟨st', ρ', I', k1, k2, k3⟩
end
end Go.Iso
namespace Go.Iso
open Go Go.RowKit
set_option linter.unusedSimpArgs false
set_option linter.unusedVariables false
section
variable {P : Program} {G : Nat → V} {σ σ' : Heap} {ρ ρ' : Nat → Option Nat} {I I' : Nat → Prop} {w w' : World} {a : Act}
/-! ### Writing a value's cells into an array -/
theorem foldl_set_list (off : Nat) : ∀ (vs : List Value) (k : Nat) (l : List Value), off + k + vs.length ≤ l.length →
  (vs.zipIdx k).foldl (fun cs (p : Value × Nat) => cs.set (off + p.2) p.1) l = l.take (off + k) ++ vs ++ l.drop (off + k + vs.length)
 | [], k, l, h => by simp
 | v :: vs, k, l, h => by
  simp only [List.length_cons] at h
  rw [List.zipIdx_cons, List.foldl_cons, foldl_set_list off vs (k + 1) _ (by simp; omega)]
  have h1 : (l.set (off + k) v).take (off + (k + 1)) = l.take (off + k) ++ [v] := by
   rw [show off + (k + 1) = off + k + 1 by omega, List.take_add_one, List.take_set_of_le (Nat.le_refl _), List.getElem?_set_self (by omega)]; rfl
  have h2 : (l.set (off + k) v).drop (off + (k + 1) + vs.length) = l.drop (off + k + (vs.length + 1)) := by
   rw [List.drop_set_of_lt (by omega)]; congr 1; omega
  simp only [h1, h2, List.length_cons, List.append_assoc, List.singleton_append, List.cons_append, List.nil_append]
theorem foldl_set_arr (off : Nat) : ∀ (ps : List (Value × Nat)) (cs : Array Value), (ps.foldl (fun cs (p : Value × Nat) => cs.setIfInBounds (off + p.2) p.1) cs).toList = ps.foldl (fun l (p : Value × Nat) => l.set (off + p.2) p.1) cs.toList
 | [], cs => rfl
 | p :: ps, cs => by rw [List.foldl_cons, List.foldl_cons, foldl_set_arr off ps]; simp
theorem foldl_set (vs : Array Value) (off : Nat) (cells : Array Value) (h : off + vs.size ≤ cells.size) :
  vs.zipIdx.foldl (fun cs (p : Value × Nat) => cs.setIfInBounds (off + p.2) p.1) cells = (cells.toList.take off ++ vs.toList ++ cells.toList.drop (off + vs.size)).toArray := by
 apply Array.ext'
 rw [← Array.foldl_toList, foldl_set_arr]
 have := foldl_set_list off vs.toList 0 cells.toList (by simpa using h)
 simpa using this
theorem run_mapM_list {α β : Type} (g : α → Sem β) (g' : α → β) : ∀ (l : List α), (∀ x ∈ l, ∀ w, (g x).run P w = .ok (g' x) w) → (l.mapM g).run P w = .ok (l.map g') w
 | [], _ => by simp
 | x :: l, h => by
  simp only [List.mapM_cons, Sem.run_bind, h x (by simp), Result.andThen_ok, run_mapM_list g g' l (fun y hy => h y (by simp [hy])), Sem.run_pure, List.map_cons]
theorem run_mapM {α β : Type} (g : α → Sem β) (g' : α → β) (l : Array α) (h : ∀ x ∈ l, ∀ w, (g x).run P w = .ok (g' x) w) : (l.mapM g).run P w = .ok (l.map g') w := by
 rw [Array.mapM_eq_mapM_toList, Sem.run_map, run_mapM_list g g' l.toList (fun x hx => h x (by simpa using hx))]
 simp only [Result.andThen_ok, Result.ok.injEq, and_true]
 apply Array.ext'; simp
def plOf (P : Program) (t : TypeId) (i : Nat) : Option (Nat × Nat) :=
 match fldOf P t i with
 | some (off, ft) => (match szOf P ft with | some n => some (off, n) | none => none)
 | none => none
def stOk (P : Program) (t : TypeId) : Bool := match P.underlying t with | some (.struct fs) => fs.all fun f => (szOf P f.type).isSome | _ => false
def bldV (P : Program) (t : TypeId) : List (Nat × V) → List V → Option (List V)
 | [], cs => some cs
 | (i, v) :: r, cs => match plOf P t i with
  | some (off, n) => if rowOk v = true ∧ (toRow v).length = n ∧ off + n ≤ cs.length then bldV P t r (putRow cs off (toRow v)) else none
  | none => none
theorem fill_struct {t : TypeId} {place : Nat → Option (Nat × Nat)} (hpl : ∀ i off n, plOf P t i = some (off, n) → place i = some (off, n)) :
  ∀ (ps : List (Nat × Operand)) (cs out : List V) (c : Array Value), bldV P t (ps.map fun p => (p.1, evO G p.2)) cs = some out → (∀ p ∈ ps, RepV ρ I w (evO G p.2) (a.eval p.2)) →
   c.size = cs.length → (∀ i (hi : i < cs.length), RepV ρ I w cs[i] (c.getD i undef)) →
   ∃ c', Instr.fill place c (ps.map fun p => (p.1, a.eval p.2)) = some c' ∧ c'.size = out.length ∧ ∀ i (hi : i < out.length), RepV ρ I w out[i] (c'.getD i undef)
 | [], cs, out, c, h, _, hs, hr => by
  simp only [List.map_nil, bldV, Option.some.injEq] at h; subst h
  exact ⟨c, rfl, hs, hr⟩
 | (i, x) :: ps, cs, out, c, h, hx, hs, hr => by
  simp only [List.map_cons, bldV] at h
  split at h
  ·next off n hp =>
   split at h
   ·next hc =>
    obtain ⟨h1, h2, h3⟩ := hc
    obtain ⟨k1, k2⟩ := (hx (i, x) (by simp)).row (rowOk_or h1)
    have hput := ArrRep.put (ArrRep.one hs hr) (i := 0) (j := off) (row := cs) (vs := toRow (evO G x)) rfl (by omega) (cs := (a.eval x).cells.toList) (by simpa using k1) (fun m hm => by
     have := k2 m hm
     rw [Array.getD_eq_getD_getElem?] at this
     simpa [List.getD_eq_getElem?_getD] using this)
    simp only [Nat.zero_mul, Nat.zero_add, List.set_cons_zero] at hput
    have hlen : (putRow cs off (toRow (evO G x))).length = cs.length := by simp [putRow]; omega
    have hsz2 : (a.eval x).cells.size = n := k1.trans h2
    obtain ⟨c', e1, e2, e3⟩ := fill_struct hpl ps _ out (c.toList.take off ++ (a.eval x).cells.toList ++ c.toList.drop (off + (a.eval x).cells.toList.length)).toArray h (fun p hp => hx p (by simp [hp])) (by simp; omega)
     (fun j hj => by
      have := hput.rep 0 (by simp) j (by simpa using hj)
      simpa using this)
    refine ⟨c', ?_, e2, e3⟩
    simp only [List.map_cons, Instr.fill, hpl i off n hp]
    rw [if_neg (by simp; omega), foldl_set _ _ _ (by omega)]
    simpa using e1
   ·cases h
  ·cases h
theorem OpP.build [Glb] {t : TypeId} {z : Value} {parts : Array (Nat × Operand)} {out : List V} (hs : stOk P t = true) (hz : zOf P t = some z) (hk : rowOk (constV z) = true)
  (hb : bldV P t (parts.toList.map fun p => (p.1, evO G p.2)) (toRow (constV z)) = some out) : OpP P (.build t parts) G σ (.agg out) :=
 .of_run fun o ho ρ I a w hh hg => by
  unfold stOk at hs
  split at hs
  case h_2 => cases hs
  case h_1 fs hu =>
  rw [Array.all_eq_true_iff_forall_mem] at hs
  have hg' : ∀ p ∈ parts.toList, RepV ρ I w (evO G p.2) (a.eval p.2) := fun p hp => evO_rep hg (by
   simp only [Op.operands, List.mem_toArray, List.mem_map]; exact ⟨p, hp, rfl⟩)
  obtain ⟨k1, k2⟩ := (constV_rep (ρ := ρ) (I := I) (w := w) z).row (rowOk_or hk)
  have hpl : ∀ i off n, plOf P t i = some (off, n) → ((fs.map fun f => (f.offset, (szOf P f.type).getD 0))[·]?) i = some (off, n) := by
   intro i off n h
   unfold plOf at h
   split at h
   ·next off' ft hf =>
    obtain ⟨fs', x, hu', hx, rfl, rfl⟩ := run_fldOf hf
    rw [hu] at hu'; cases hu'
    split at h
    ·next m hm =>
     simp only [Option.some.injEq, Prod.mk.injEq] at h
     obtain ⟨rfl, rfl⟩ := h
     simp [hx, hm]
    ·cases h
   ·cases h
  obtain ⟨c', e1, e2, e3⟩ := fill_struct (P := P) hpl parts.toList (toRow (constV z)) out z.cells hb hg' k1 k2
  refine ⟨.agg c', ?_, .agg e2 e3⟩
  have hmap : (fs.mapM fun f => (do pure (f.offset, ← sizeOf f.type) : Sem (Nat × Nat))).run P w = .ok (fs.map fun f => (f.offset, (szOf P f.type).getD 0)) w := by
   refine run_mapM _ _ fs fun f hf w' => ?_
   have := hs f hf
   cases hsz : szOf P f.type with
   | none => simp [hsz] at this
   | some n => simp only [Sem.run_bind, run_szOf hsz, Result.andThen_ok, Sem.run_pure, Option.getD_some]
  have hparts : (parts.map fun (p : Nat × Operand) => (p.1, a.eval p.2)).toList = parts.toList.map fun p => (p.1, a.eval p.2) := by simp
  simp only [execOp, ho, Instr.build, Sem.run_bind, run_zOf hz, Result.andThen_ok, run_underlying hu]
  simp only [Sem.run_bind, hmap, Result.andThen_ok]
  rw [hparts, e1]
  simp
/-! ### Slices that are built -/
def asDs : List V → Option (List D)
 | [] => some []
 | .d x :: r => (asDs r).map (x :: ·)
 | _ :: _ => none
def asRows : List (List V) → Option (List (List D))
 | [] => some []
 | r :: rs => match asDs r, asRows rs with
  | some d, some ds => some (d :: ds)
  | _, _ => none
theorem asDs_spec : ∀ {r : List V} {ds : List D}, asDs r = some ds → r = ds.map .d
 | [], ds, h => by simp only [asDs, Option.some.injEq] at h; subst h; rfl
 | v :: r, ds, h => by
  cases v with
  | d x =>
   simp only [asDs] at h
   cases hr : asDs r with
   | none => simp [hr] at h
   | some d => simp only [hr, Option.map_some, Option.some.injEq] at h; subst h; rw [asDs_spec hr]; rfl
  | _ => simp [asDs] at h
theorem asRows_spec : ∀ {rs : List (List V)} {ds : List (List D)}, asRows rs = some ds → rs = ds.map (·.map .d)
 | [], ds, h => by simp only [asRows, Option.some.injEq] at h; subst h; rfl
 | r :: rs, ds, h => by
  simp only [asRows] at h
  cases h1 : asDs r with
  | none => simp [h1] at h
  | some d =>
   cases h2 : asRows rs with
   | none => simp [h1, h2] at h
   | some d2 => simp only [h1, h2, Option.some.injEq] at h; subst h; rw [asDs_spec h1, asRows_spec h2]; rfl
def inOrder : Nat → List (Nat × Operand) → Bool
 | _, [] => true
 | i, p :: r => p.1 == i && inOrder (i + 1) r
theorem fill_slice (n : Nat) : ∀ (ps : List (Nat × Operand)) (i len : Nat) (rows : List (List V)) (c : Array Value), inOrder i ps = true → i + ps.length = len → ArrRep ρ I w n rows c → rows.length = len → c.size = len * n →
  (∀ p ∈ ps, RepV ρ I w (evO G p.2) (a.eval p.2) ∧ rowOk (evO G p.2) = true ∧ (toRow (evO G p.2)).length = n) →
  ∃ c', Instr.fill (fun i => some (i * n, n)) c (ps.map fun p => (p.1, a.eval p.2)) = some c' ∧ c'.size = len * n ∧ ArrRep ρ I w n (rows.take i ++ ps.map fun p => toRow (evO G p.2)) c'
 | [], i, len, rows, c, _, hlen, hA, hr, hs, _ => by
  simp only [List.length_nil, Nat.add_zero] at hlen
  refine ⟨c, rfl, hs, ?_⟩
  rw [List.map_nil, List.append_nil, List.take_of_length_le (by omega)]; exact hA
 | p :: ps, i, len, rows, c, ho, hlen, hA, hr, hs, hp => by
  simp only [inOrder, Bool.and_eq_true, beq_iff_eq] at ho
  simp only [List.length_cons] at hlen
  obtain ⟨h1, h2, h3⟩ := hp p (by simp)
  obtain ⟨k1, k2⟩ := h1.row (rowOk_or h2)
  have hi : i < rows.length := by omega
  have hput := hA.put (i := i) (j := 0) (row := rows[i]) (vs := toRow (evO G p.2)) (List.getElem?_eq_getElem hi) (by omega) (cs := (a.eval p.2).cells.toList) (by simpa using k1) (fun m hm => by
   have := k2 m hm
   rw [Array.getD_eq_getD_getElem?] at this
   simpa [List.getD_eq_getElem?_getD] using this)
  have hrow : putRow rows[i] 0 (toRow (evO G p.2)) = toRow (evO G p.2) := by
   simp only [putRow, List.take_zero, List.nil_append, Nat.zero_add]
   rw [List.drop_eq_nil_of_le (by rw [hA.row i hi]; omega), List.append_nil]
  rw [hrow, Nat.add_zero] at hput
  have hle : (i + 1) * n ≤ len * n := Nat.mul_le_mul_right _ (by omega)
  rw [Nat.add_mul, Nat.one_mul] at hle
  have hsz2 : (a.eval p.2).cells.size = n := by omega
  obtain ⟨c', e1, e2, e3⟩ := fill_slice n ps (i + 1) len _ (c.toList.take (i * n) ++ (a.eval p.2).cells.toList ++ c.toList.drop (i * n + (a.eval p.2).cells.toList.length)).toArray ho.2 (by omega) hput (by simpa using hr) (by simp; omega) (fun q hq => hp q (by simp [hq]))
  refine ⟨c', ?_, e2, ?_⟩
  ·simp only [List.map_cons, Instr.fill, ho.1]
   rw [if_neg (by simp; omega), foldl_set _ _ _ (by omega)]
   simpa using e1
  ·have : (rows.set i (toRow (evO G p.2))).take (i + 1) = rows.take i ++ [toRow (evO G p.2)] := by
    rw [List.take_add_one, List.take_set_of_le (Nat.le_refl _), List.getElem?_set_self hi]; rfl
   rw [this] at e3
   simpa using e3
def sliceRows (G : Nat → V) (parts : List (Nat × Operand)) : List (List V) := parts.map fun p => toRow (evO G p.2)
theorem run_buildSlice {t e : TypeId} {n len : Nat} {z : Value} {parts : Array (Nat × Operand)} (he : elOf P t = some e) (hn : szOf P e = some n) (hn0 : n ≠ 0) (hz : zOf P e = some z) (hk : rowOk (constV z) = true) (hkl : (toRow (constV z)).length = n)
  (hord : inOrder 0 parts.toList = true) (hlen : parts.toList.length = len) (hsm : len * n ≤ 2 ^ 24)
  (hrows : ∀ p ∈ parts.toList, rowOk (evO G p.2) = true ∧ (toRow (evO G p.2)).length = n) (hg : ∀ p ∈ parts.toList, RepV ρ I w (evO G p.2) (a.eval p.2)) :
  ∃ c, (Instr.buildSlice t len (parts.map fun (p : Nat × Operand) => (p.1, a.eval p.2))).run P w = .ok (.slice (some ⟨w.heap.size, 0, none⟩) len len) { w with heap := w.heap.push (.cells c e) } ∧
   ArrRep ρ I w n (sliceRows G parts.toList) c ∧ c.size = len * n := by
 have hparts : (parts.map fun (p : Nat × Operand) => (p.1, a.eval p.2)).toList = parts.toList.map fun p => (p.1, a.eval p.2) := by simp
 obtain ⟨k1, k2⟩ := (constV_rep (ρ := ρ) (I := I) (w := w) z).row (rowOk_or hk)
 have hzs : z.cells.size = n := by omega
 by_cases h0 : len = 0
 ·subst h0
  have hp : parts.toList = [] := List.eq_nil_of_length_eq_zero hlen
  refine ⟨#[], ?_, ⟨by simp [sliceRows, hp], fun i hi => absurd hi (by simp [sliceRows, hp]), fun i hi => absurd hi (by simp [sliceRows, hp])⟩, by simp⟩
  simp only [Instr.buildSlice, Sem.run_bind, run_underlying (run_elOf he), Result.andThen_ok, run_szOf hn, Nat.zero_mul, hparts, hp]
  have hz0 : Array.map (fun _ => (default : Value)) (Array.range 0) = #[] := by apply Array.ext'; simp
  simp [Instr.fill, newRow]
  rw [hz0]
 ·have hne : ¬ len * n = 0 := Nat.mul_ne_zero h0 hn0
  let c0 : Array Value := (Array.range (len * n)).map (z.cells[· % z.cells.size]!)
  have hA : ArrRep ρ I w n (List.replicate len (toRow (constV z))) c0 := by
   refine ⟨by simp [c0], fun i hi => by rw [List.getElem_replicate]; exact hkl, fun i hi j hj => ?_⟩
   simp only [List.getElem_replicate] at hj ⊢
   simp only [List.length_replicate] at hi
   have hj' : j < n := by omega
   have hlt : i * n + j < len * n := by
    have : (i + 1) * n ≤ len * n := Nat.mul_le_mul_right _ hi
    rw [Nat.add_mul, Nat.one_mul] at this; omega
   have e1 : c0.getD (i * n + j) undef = z.cells.getD j undef := by
    simp only [c0, Array.getD_eq_getD_getElem?, Array.getElem?_map, Array.getElem?_range, hlt, if_true, Option.map_some, Option.getD_some, hzs]
    rw [Nat.add_comm, Nat.add_mul_mod_self_right, Nat.mod_eq_of_lt hj']
    simp [hzs, hj']
   rw [e1]; exact k2 j (by omega)
  obtain ⟨c', e1, e2, e3⟩ := fill_slice (G := G) (a := a) n parts.toList 0 len _ c0 hord (by omega) hA (by simp) (by simp [c0]) (fun p hp => ⟨hg p hp, (hrows p hp).1, (hrows p hp).2⟩)
  refine ⟨c', ?_, by simpa [sliceRows] using e3, e2⟩
  simp only [Instr.buildSlice, Sem.run_bind, run_underlying (run_elOf he), Result.andThen_ok, run_szOf hn]
  rw [if_neg (by omega), if_neg hne]
  simp only [Sem.run_bind, run_zOf hz, Result.andThen_ok, Sem.run_pure]
  rw [hparts]
  have : Instr.fill (fun i => some (i * n, n)) (Array.map (fun x => z.cells[x % z.cells.size]!) (Array.range (len * n))) (parts.toList.map fun p => (p.1, a.eval p.2)) = some c' := e1
  rw [this]
  simp [newRow]
theorem parts_mem {t : TypeId} {len : Nat} {parts : Array (Nat × Operand)} (hg : OkOn G ρ I w a (Op.buildSlice t len parts).operands) : ∀ p ∈ parts.toList, RepV ρ I w (evO G p.2) (a.eval p.2) :=
 fun p hp => evO_rep hg (by simp only [Op.operands, List.mem_toArray, List.mem_map]; exact ⟨p, hp, rfl⟩)
theorem OpW.buildSlice [Glb] {t e : TypeId} {n len : Nat} {z : Value} {parts : Array (Nat × Operand)} {N id : Nat} (he : elOf P t = some e) (hn : szOf P e = some n) (hn0 : n ≠ 0) (hz : zOf P e = some z) (hk : rowOk (constV z) = true) (hkl : (toRow (constV z)).length = n)
  (hord : inOrder 0 parts.toList = true) (hlen : parts.toList.length = len) (hsm : len * n ≤ 2 ^ 24) (hrows : ∀ p ∈ parts.toList, rowOk (evO G p.2) = true ∧ (toRow (evO G p.2)).length = n) :
  OpW P (.buildSlice t len parts) G σ N id (.msl id n 0 len) (upd σ id (some ⟨n, sliceRows G parts.toList⟩)) :=
 .of_value fun o ho ρ I a w hh hid hg => by
  obtain ⟨c, hr, hA, hc⟩ := run_buildSlice (a := a) (ρ := ρ) (I := I) (w := w) he hn hn0 hz hk hkl hord hlen hsm hrows (parts_mem hg)
  obtain ⟨h1, h2, h3⟩ := hh.new e hid hA w.drawn
  refine ⟨_, _, _, by simp only [execOp, ho, Sem.run_bind]; rw [show (Array.map (fun x => match x with | (i, x) => (i, a.eval x)) parts) = parts.map fun (p : Nat × Operand) => (p.1, a.eval p.2) from rfl, hr]; rfl, h1, h2, upd_ids, ?_⟩
  have hle : len ≤ 16777216 := by
   have : len * 1 ≤ len * n := Nat.mul_le_mul_left _ (by omega)
   omega
  have := RepV.msl (ρ := upd ρ id (some w.heap.size)) (I := I) (o := id) (k := n) (off := 0) (len := len) (cap := len) (upd_same _ _ _) h3.w (by rw [Nat.zero_add]; omega) (Nat.le_refl _) (by omega)
  simpa using this
theorem OpP.buildSlice [Glb] {t e : TypeId} {n len : Nat} {z : Value} {parts : Array (Nat × Operand)} {ds : List (List D)} (he : elOf P t = some e) (hn : szOf P e = some n) (hn0 : n ≠ 0) (hz : zOf P e = some z) (hk : rowOk (constV z) = true) (hkl : (toRow (constV z)).length = n)
  (hord : inOrder 0 parts.toList = true) (hlen : parts.toList.length = len) (hsm : len * n ≤ 2 ^ 24) (hrows : ∀ p ∈ parts.toList, rowOk (evO G p.2) = true ∧ (toRow (evO G p.2)).length = n) (hds : asRows (sliceRows G parts.toList) = some ds) :
  OpP P (.buildSlice t len parts) G σ (.d (.sl ds)) := by
 intro o ho ρ I a w hh hg K Q hK
 obtain ⟨c, hr, hA, hc⟩ := run_buildSlice (a := a) (ρ := ρ) (I := I) (w := w) he hn hn0 hz hk hkl hord hlen hsm hrows (parts_mem hg)
 show o.upon P a K Q ((execOp a.eval o).run P w)
 have hrun : (execOp a.eval o).run P w = .ok (.value (.slice (some ⟨w.heap.size, 0, none⟩) len len)) { w with heap := w.heap.push (.cells c e) } := by
  simp only [execOp, ho, Sem.run_bind]
  rw [show (Array.map (fun x => match x with | (i, x) => (i, a.eval x)) parts) = parts.map fun (p : Nat × Operand) => (p.1, a.eval p.2) from rfl, hr]; rfl
 rw [hrun]
 have hspec := asRows_spec hds
 have hdl : ds.length = len := by have := congrArg List.length hspec; simp [sliceRows] at this; simp at hlen; omega
 have hle : len ≤ 16777216 := by
  have : len * 1 ≤ len * n := Nat.mul_le_mul_left _ (by omega)
  omega
 refine hK _ (fun b => I b ∨ b = w.heap.size) _ ⟨⟨rfl, rfl, rfl, by simp, fun k hk => by simp [Array.getElem?_push, Nat.ne_of_lt hk]⟩, fun b h => .inl h, fun b h => h.imp id (fun h => by omega), fun b h => ?_⟩ (.d ?_)
 ·rcases h with h | h
  ·have := hh.lt b h; simp; omega
  ·simp; omega
 ·rw [hspec] at hA
  have hdn : ∀ i (hi : i < ds.length), ds[i].length = n := fun i hi => by
   have := hA.row i (by simpa using hi); simpa using this
  subst hdl
  refine .sl w.heap.size 0 ds.length n ds (fun i j => c.getD (i * n + j) undef) (.inr rfl) (Nat.le_refl _) (by omega) (fun row hm => ?_) (fun i j hi hj => ?_) (fun i j hi hj => ?_)
  ·obtain ⟨i, hi, rfl⟩ := List.getElem_of_mem hm; exact hdn i hi
  ·have hlt : i * n + j < c.size := by
    have : (i + 1) * n ≤ ds.length * n := Nat.mul_le_mul_right _ hi
    rw [Nat.add_mul, Nat.one_mul] at this
    have := hdn i hi; omega
   simp [cellAt, World.cell?, Array.getD_eq_getD_getElem?, hlt]
  ·have := hA.rep i (by simpa using hi) j (by simpa using hj)
   simp only [List.getElem_map] at this
   exact (this.toD rfl).mono (fun b h => .inl h) (fun b hb => by have := hh.lt b hb; simp [Array.getElem?_push, Nat.ne_of_lt this])
end
end Go.Iso
namespace Go.Iso
open Go Go.RowKit
set_option linter.unusedSimpArgs false
set_option linter.unusedVariables false
section
variable {P : Program} {G : Nat → V} {σ σ' : Heap} {ρ ρ' : Nat → Option Nat} {I I' : Nat → Prop} {w w' : World} {a : Act}
def bytOf (P : Program) (t : TypeId) : Option Nat := (P.info? t).map (·.bytes)
theorem run_bytOf {t : TypeId} {n : Nat} (h : bytOf P t = some n) : ∃ i, (∀ w, (typeInfo t).run P w = .ok i w) ∧ i.bytes = n := by
 unfold bytOf at h
 cases hi : P.info? t with
 | none => simp [hi] at h
 | some i => simp only [hi, Option.map_some, Option.some.injEq] at h; exact ⟨i, fun w => by simp [typeInfo, hi], h⟩
def srcRows (σ : Heap) : V → Option (List (List V))
 | .d (.sl ys) => some (ys.map (·.map .d))
 | .d (.val (.slice none 0 0)) => some []
 | .d (.val (.string s)) => some (s.data.toList.map fun b => [.d (.val (.int .u8 b.toNat))])
 | .msl o k off len => match σ o with
  | some x => if x.k = k ∧ off + len ≤ x.rows.length then some ((x.rows.drop off).take len) else none
  | none => none
 | _ => none
theorem loadF {b off cnt : Nat} {F : Nat → Value} (hw : w'.heap = w.heap) (h : ∀ j, j < cnt → w.cell? ⟨b, off + j, none⟩ = some (F j)) : (loadCells ⟨b, off, none⟩ cnt).run P w' = .ok ((List.range cnt).map F).toArray w' :=
 run_loadCells w' ⟨b, off, none⟩ cnt F fun j hj => by
  rw [add_addr]
  have : w'.cell? ⟨b, off + j, none⟩ = w.cell? ⟨b, off + j, none⟩ := by simp only [World.cell?, hw]
  rw [this]; exact h j hj
theorem rangeF_getD {cnt : Nat} {F : Nat → Value} {i : Nat} (h : i < cnt) : (((List.range cnt).map F).toArray).getD i undef = F i := by
 simp [Array.getD_eq_getD_getElem?, h]
theorem blk_cell {b : Nat} {c : Array Value} {e : TypeId} (h : Blk w b c e) {j : Nat} (hj : j < c.size) : w.cell? ⟨b, j, none⟩ = some (c.getD j undef) := by
 have h' : w.heap[b]? = some (Go.Obj.cells c e (0, 0)) := h
 simp [World.cell?, h', Array.getD_eq_getD_getElem?, hj]
theorem run_src [Glb] (hh : HeapOk σ ρ I w) {v : V} {c : Value} {rows : List (List V)} {n : Nat} (hn0 : n ≠ 0) (h : RepV ρ I w v c) (hs : srcRows σ v = some rows) (hl : ∀ r ∈ rows, r.length = n) :
  ∃ arr, (∀ w' : World, w'.heap = w.heap → (Builtin.firstCells n rows.length c).run P w' = .ok arr w') ∧ (Builtin.lenOf c).run P w = .ok rows.length w ∧ arr.size = rows.length * n ∧ ArrRep ρ I w n rows arr := by
 have empty : ∀ {arr : Array Value}, ArrRep ρ I w n [] arr := ⟨by simp, fun i hi => absurd hi (by simp), fun i hi => absurd hi (by simp)⟩
 cases v with
 | d x =>
  cases x with
  | sl ys =>
   simp only [srcRows, Option.some.injEq] at hs; subst hs
   have hd := h.toD rfl
   generalize hxs : D.sl ys = X at hd
   cases hd with
   | val c hc => cases hxs
   | nil ad cap =>
    cases hxs
    refine ⟨#[], fun w' _ => ?_, by simp [Builtin.lenOf], by simp, empty⟩
    cases ad <;> simp [Builtin.firstCells, loadCells, loadCellsFrom]
   | sl b off cap k xs f hI hc hm hk hf hr =>
    cases hxs
    by_cases h0 : ys.length = 0
    ·have : ys = [] := List.eq_nil_of_length_eq_zero h0
     subst this
     exact ⟨#[], fun w' _ => by simp [Builtin.firstCells, loadCells, loadCellsFrom], by simp [Builtin.lenOf], by simp, empty⟩
    ·have hkn : k = n := by
      have h1 : 0 < ys.length := by omega
      have := hl (ys[0].map .d) (List.mem_map_of_mem (List.getElem_mem h1))
      rw [List.length_map] at this
      rw [← hk ys[0] (List.getElem_mem h1)]; exact this
     subst hkn
     have hrow : ∀ i (hi : i < ys.length), ys[i].length = k := fun i hi => hk _ (List.getElem_mem hi)
     let F : Nat → Value := fun j => f (j / k) (j % k)
     have hF : ∀ j, j < ys.length * k → w.cell? ⟨b, off + j, none⟩ = some (F j) := fun j hj => by
      have h1 : j / k < ys.length := Nat.div_lt_of_lt_mul (by rw [Nat.mul_comm]; exact hj)
      have h2 : j % k < k := Nat.mod_lt _ (by omega)
      have := hf (j / k) (j % k) h1 (by rw [hrow _ h1]; exact h2)
      rw [show off + j = off + j / k * k + j % k by rw [Nat.add_assoc, Nat.div_add_mod' j k]]
      exact this
     refine ⟨((List.range (ys.length * k)).map F).toArray, fun w' hw => by simp [Builtin.firstCells, loadF hw hF], by simp [Builtin.lenOf], by simp, by simp, fun i hi => by simp at hi ⊢; exact hrow i hi, fun i hi j hj => ?_⟩
     simp only [List.length_map] at hi
     simp only [List.getElem_map, List.length_map] at hj ⊢
     have hj' : j < k := by rw [← hrow i hi]; exact hj
     have hlt : i * k + j < ys.length * k := by
      have : (i + 1) * k ≤ ys.length * k := Nat.mul_le_mul_right _ hi
      rw [Nat.add_mul, Nat.one_mul] at this; omega
     rw [rangeF_getD hlt]
     have e1 : (i * k + j) / k = i := by rw [Nat.mul_comm, Nat.mul_add_div (by omega), Nat.div_eq_of_lt hj', Nat.add_zero]
     have e2 : (i * k + j) % k = j := by rw [Nat.add_comm, Nat.add_mul_mod_self_right, Nat.mod_eq_of_lt hj']
     simp only [F, e1, e2]
     exact .d (hr i j hi hj)
  | val c' =>
   have he := h.val rfl
   subst he
   unfold srcRows at hs
   split at hs
   ·next e => cases e
   ·next e => cases e; cases hs; exact ⟨#[], fun w' _ => by simp [Builtin.firstCells], by simp [Builtin.lenOf], by simp, empty⟩
   ·next s e =>
    cases e; cases hs
    have hn1 : s.data.toList.length * n = s.size := by
     cases hd : s.data.toList with
     | nil => simp [ByteArray.size, ← Array.length_toList, hd]
     | cons b r =>
      have := hl [.d (.val (.int .u8 b.toNat))] (by rw [hd]; simp)
      simp at this; subst this
      rw [Nat.mul_one, ← hd, Array.length_toList]; rfl
    refine ⟨s.data.map fun b => .int .u8 b.toNat, fun w' _ => ?_, by rw [List.length_map, Array.length_toList]; rfl, ?_, ?_, fun i hi => hl _ (List.getElem_mem hi), fun i hi j hj => ?_⟩
    ·have : s.extract 0 s.size = s := by simp
     simp only [Builtin.firstCells, List.length_map, Array.length_toList]
     rw [show s.data.size = s.size from rfl, this]; rfl
    ·simp only [Array.size_map, List.length_map]; exact hn1.symm
    ·simp only [Array.size_map, List.length_map]; rw [hn1]; exact Nat.le_refl _
    ·have hi' : i < s.data.size := by simpa using hi
     have hnn : n = 1 := by have := hl _ (List.getElem_mem hi); simp at this; exact this.symm
     subst hnn
     have hj0 : j = 0 := by simp at hj; exact hj
     subst hj0
     have e1 : (s.data.map fun b => Value.int .u8 b.toNat).getD (i * 1 + 0) undef = .int .u8 (s.data[i].toNat : Nat) := by
      rw [Nat.mul_one, Nat.add_zero]; simp [Array.getD_eq_getD_getElem?, Array.getElem?_eq_getElem hi']
     rw [e1]
     simp only [List.getElem_map, Array.getElem_toList, List.getElem_cons_zero]
     exact .d (.val _ rfl)
   ·next e => cases e
   ·cases hs
 | msl o k off len =>
  simp only [srcRows] at hs
  split at hs
  ·next x hx =>
   split at hs
   ·next hc =>
    cases hs
    obtain ⟨rfl, hle⟩ := hc
    obtain ⟨b, cap, cs, el, hb, hblk, hsz, hcap, hm, rfl⟩ := h.toMsl rfl
    obtain ⟨c', e', hblk', hnI, hA⟩ := hh.arr hx hb ⟨_, _, hblk⟩
    have hlen : ((x.rows.drop off).take len).length = len := by simp; omega
    by_cases h0 : len = 0
    ·subst h0
     refine ⟨#[], fun w' _ => by simp [Builtin.firstCells, loadCells, loadCellsFrom], by simp [Builtin.lenOf], by simp, ?_⟩
     simpa using (empty (arr := #[]))
    have hkn : x.k = n := by
     have h1 : off < x.rows.length := by omega
     rw [← hA.row off h1]
     exact hl _ (by
      rw [List.mem_iff_getElem]
      exact ⟨0, by rw [hlen]; omega, by simp⟩)
    subst hkn
    have hlt : ∀ i, i < len * x.k → off * x.k + i < c'.size := fun i hi => by
     have h1 : (off + len) * x.k ≤ x.rows.length * x.k := Nat.mul_le_mul_right _ hle
     rw [Nat.add_mul] at h1
     have := hA.size; omega
    refine ⟨((List.range (len * x.k)).map fun j => c'.getD (off * x.k + j) undef).toArray, fun w' hw => ?_, by simp [Builtin.lenOf, hlen], by simp [hlen], ?_⟩
    ·simp only [Builtin.firstCells, hlen]
     exact loadF hw fun j hj => blk_cell hblk' (hlt j hj)
    ·refine ⟨by simp [hlen], fun i hi => ?_, fun i hi j hj => ?_⟩
     ·rw [List.getElem_take, List.getElem_drop]; exact hA.row _ _
     ·rw [hlen] at hi
      simp only [List.getElem_take, List.getElem_drop] at hj ⊢
      have h1 : off + i < x.rows.length := by omega
      have hj' : j < x.k := by rw [← hA.row _ h1]; exact hj
      have h2 : i * x.k + j < len * x.k := by
       have : (i + 1) * x.k ≤ len * x.k := Nat.mul_le_mul_right _ hi
       rw [Nat.add_mul, Nat.one_mul] at this; omega
      rw [rangeF_getD h2, ← Nat.add_assoc, ← Nat.add_mul]
      exact hA.rep _ h1 j hj
   ·cases hs
  ·cases hs
 | _ => simp [srcRows] at hs
theorem growBy_le (newLen : Nat) : ∀ (r c : Nat), c < newLen → Builtin.growBy newLen r c ≤ newLen + (newLen + 768) / 4
 | 0, c, h => by simp only [Builtin.growBy]; omega
 | r + 1, c, h => by
  simp only [Builtin.growBy]
  split
  ·omega
  ·rcases Nat.lt_or_ge (c + (c + 768) / 4) newLen with h1 | h1
   ·exact growBy_le newLen r _ h1
   ·have : Builtin.growBy newLen r (c + (c + 768) / 4) = c + (c + 768) / 4 := by
     cases r with
     | zero => rfl
     | succ r => simp only [Builtin.growBy]; rw [if_pos h1]
    rw [this]; omega
theorem nextcap_le {need cap : Nat} (h : cap < need) : Builtin.nextslicecap need cap ≤ 2 * need + 1000 := by
 unfold Builtin.nextslicecap
 split
 ·omega
 ·split
  ·omega
  ·have := growBy_le need 4 cap h; omega
theorem zeroCells_size {z : Array Value} {n : Nat} : (Builtin.zeroCells z n).size = n * z.size := by simp [Builtin.zeroCells]
def seqT (P : Program) (t : TypeId) : Bool := match P.underlying t with | some (.slice _) | some .string => true | _ => false
theorem run_seqT {t : TypeId} (h : seqT P t = true) : ∃ d, P.underlying t = some d ∧ (∀ k, d ≠ .int k) := by
 unfold seqT at h
 split at h
 ·next e he => exact ⟨_, he, fun k h => by cases h⟩
 ·next he => exact ⟨_, he, fun k h => by cases h⟩
 ·cases h
theorem ArrRep.append {n : Nat} {r1 r2 : List (List V)} {c1 c2 c3 : Array Value} (h1 : ArrRep ρ I w n r1 c1) (h2 : ArrRep ρ I w n r2 c2) (hs : c1.size = r1.length * n) : ArrRep ρ I w n (r1 ++ r2) (c1 ++ c2 ++ c3) where
 size := by have := h2.size; simp [Nat.add_mul]; omega
 row := fun i hi => by
  rcases Nat.lt_or_ge i r1.length with h | h
  ·rw [List.getElem_append_left h]; exact h1.row i h
  ·rw [List.getElem_append_right h]; exact h2.row _ _
 rep := fun i hi j hj => by
  rcases Nat.lt_or_ge i r1.length with h | h
  ·simp only [List.getElem_append_left h] at hj ⊢
   have hk := h1.row i h
   have hlt : i * n + j < c1.size := by
    have : (i + 1) * n ≤ r1.length * n := Nat.mul_le_mul_right _ h
    rw [Nat.add_mul, Nat.one_mul] at this; omega
   have := h1.rep i h j hj
   rw [Array.getD_eq_getD_getElem?] at this ⊢
   rw [Array.append_assoc, Array.getElem?_append, if_pos hlt]; exact this
  ·simp only [List.getElem_append_right h] at hj ⊢
   have h' : i - r1.length < r2.length := by simp at hi; omega
   have hk := h2.row _ h'
   have hge : (i - r1.length) * n + j + r1.length * n = i * n + j := by
    have : (i - r1.length) * n + r1.length * n = i * n := by rw [← Nat.add_mul]; congr 1; omega
    omega
   have hlt : (i - r1.length) * n + j < c2.size := by
    have : (i - r1.length + 1) * n ≤ r2.length * n := Nat.mul_le_mul_right _ h'
    rw [Nat.add_mul, Nat.one_mul] at this
    have := h2.size; omega
   have := h2.rep _ h' j hj
   rw [Array.getD_eq_getD_getElem?] at this ⊢
   rw [Array.append_assoc, Array.getElem?_append, if_neg (by omega), Array.getElem?_append, if_pos (by omega), show i * n + j - c1.size = (i - r1.length) * n + j by omega]
   exact this
theorem run_append_new {t t2 ty e : TypeId} {n byt sLen sCap m : Nat} {z : Value} {s x : Value} {base : Option Addr} {arr0 arr : Array Value} (hs : s = .slice base sLen sCap) (he : elOf P t = some e) (hn : szOf P e = some n) (hb : bytOf P e = some byt) (hz : zOf P e = some z) (hb0 : byt ≠ 0)
  (ht2 : seqT P t2 = true) (hlen : (Builtin.lenOf x).run P w = .ok m w) (hgt : sCap < sLen + m) (hbnd : (2 * (sLen + m) + 1000) * byt ≤ 2 ^ 48)
  (hold : ∀ w' : World, w'.heap = w.heap → (Builtin.firstCells n sLen s).run P w' = .ok arr0 w') (hnew : ∀ w' : World, w'.heap = w.heap → (Builtin.firstCells n m x).run P w' = .ok arr w') :
  ∃ newCap d, sLen + m ≤ newCap ∧ newCap ≤ 9223372036854775807 ∧ (Builtin.append_ #[t, t2] ty #[s, x]).run P w = .ok (.slice (some ⟨w.heap.size, 0, none⟩) (sLen + m) newCap) { w with heap := w.heap.push (.cells (arr0 ++ arr ++ Builtin.zeroCells z.cells (newCap - (sLen + m))) e), drawn := d } := by
 obtain ⟨d2, hd2, hd3⟩ := run_seqT ht2
 obtain ⟨ti, hti, hti2⟩ := run_bytOf hb
 have hnc : Builtin.nextslicecap (sLen + m) sCap * byt ≤ 2 ^ 48 := Nat.le_trans (Nat.mul_le_mul_right _ (nextcap_le hgt)) hbnd
 have hneed : sLen + m < 2 ^ 47 := by
  have h1 : (2 * (sLen + m) + 1000) * 1 ≤ (2 * (sLen + m) + 1000) * byt := Nat.mul_le_mul_left _ (by omega)
  omega
 let q : Question := .appendCap (sLen + m) sCap e
 let newCap := q.cut (w.tape w.drawn q)
 have hcut : newCap = sLen + m + w.tape w.drawn q % (2 ^ 63 - (sLen + m)) := rfl
 have hmod : w.tape w.drawn q % (2 ^ 63 - (sLen + m)) < 2 ^ 63 - (sLen + m) := Nat.mod_lt _ (by omega)
 refine ⟨newCap, w.drawn + 1, by omega, by omega, ?_⟩
 subst hs
 have h1 := hold { w with drawn := w.drawn + 1 } rfl
 have h2 := hnew { w with drawn := w.drawn + 1 } rfl
 have hf : q.forced = false := rfl
 unfold Builtin.append_
 simp only [List.getElem?_toArray, List.getElem?_cons_zero, List.getElem?_cons_succ, Sem.run_bind, run_underlying (run_elOf he), Result.andThen_ok, run_szOf hn, Sem.run_pure, run_underlying hd2]
 cases d2
 case int k => exact absurd rfl (hd3 k)
 all_goals
  simp only [Bool.false_eq_true, if_false, hlen, Result.andThen_ok, Sem.run_bind, Bool.not_false, if_true]
  rw [if_neg (by omega)]
  simp only [Sem.run_bind, hti, Result.andThen_ok, hti2]
  rw [if_neg (fun h => h.2.elim (fun h => h) hb0)]
  simp only [Sem.run_bind, hti, Result.andThen_ok, hti2]
  rw [if_neg (by omega)]
  simp only [Sem.run_bind, run_choose, hf, Bool.false_eq_true, if_false, Result.andThen_ok, run_askRoom, hti, h1, h2, run_zOf hz, newRow, run_newObj, Sem.run_pure]
  have hf' : (Question.appendCap (sLen + m) sCap e).forced = false := rfl
  simp only [hf', Bool.false_eq_true, if_false, Result.andThen_ok, h1, h2]
  rfl
theorem run_append_in {t t2 ty e : TypeId} {n sLen sCap m b off : Nat} {x : Value} {arr c : Array Value} {el : TypeId} (he : elOf P t = some e) (hn : szOf P e = some n) (ht2 : seqT P t2 = true) (hlen : (Builtin.lenOf x).run P w = .ok m w) (hle : sLen + m ≤ sCap)
  (hnew : (Builtin.firstCells n m x).run P w = .ok arr w) (hblk : Blk w b c el) (hsz : off + sLen * n + arr.size ≤ c.size) (h1 : ∀ v ∈ arr.toList, v.oneCell' = true) :
  (Builtin.append_ #[t, t2] ty #[.slice (some ⟨b, off, none⟩) sLen sCap, x]).run P w = .ok (.slice (some ⟨b, off, none⟩) (sLen + m) sCap)
   (w.setRow b (c.toList.take (off + sLen * n) ++ arr.toList ++ c.toList.drop (off + sLen * n + arr.toList.length)).toArray) := by
 obtain ⟨d2, hd2, hd3⟩ := run_seqT ht2
 have hst := run_storeCells_at (P := P) b (off + sLen * n) el arr.toList 0 c w hblk (by simpa using hsz) h1
 rw [Nat.add_zero] at hst
 unfold Builtin.append_
 simp only [List.getElem?_toArray, List.getElem?_cons_zero, List.getElem?_cons_succ, Sem.run_bind, run_underlying (run_elOf he), Result.andThen_ok, run_szOf hn, Sem.run_pure, run_underlying hd2]
 cases d2
 case int k => exact absurd rfl (hd3 k)
 all_goals
  simp only [Bool.false_eq_true, if_false, hlen, Result.andThen_ok, Sem.run_bind, Bool.not_false, if_true]
  rw [if_pos hle]
  simp only [Sem.run_bind, hnew, Result.andThen_ok, add_addr, hst, Sem.run_pure]
abbrev appendOp (x y : Operand) (t t2 : TypeId) : Op := .call { callee := .builtin .append, args := #[x, y], argTypes := #[t, t2] }
theorem exec_append {o : Oper} {x y : Operand} {t t2 : TypeId} (ho : o.op = appendOp x y t t2) : (execOp a.eval o).run P w = ((Builtin.append_ #[t, t2] o.type #[a.eval x, a.eval y]).run P w).andThen fun v w' => .ok (.value v) w' := by
 simp only [execOp, ho, resolve, invoke, builtin, pure_bind, Sem.run_bind]
 simp
def RowsOne (rows : List (List V)) : Prop := ∀ r ∈ rows, ∀ v ∈ r, v.one = true
theorem ArrRep.ones {n : Nat} {rows : List (List V)} {arr : Array Value} (h : ArrRep ρ I w n rows arr) (hs : arr.size = rows.length * n) (h1 : RowsOne rows) : ∀ v ∈ arr.toList, v.oneCell' = true := by
 intro v hv
 obtain ⟨m, hm, rfl⟩ := List.getElem_of_mem hv
 simp only [Array.length_toList] at hm
 have hn : 0 < n := by
  rcases Nat.eq_zero_or_pos n with h0 | h0
  ·subst h0; omega
  ·exact h0
 have h2 : m / n < rows.length := Nat.div_lt_of_lt_mul (by rw [Nat.mul_comm]; omega)
 have h3 : m % n < rows[m / n].length := by rw [h.row _ h2]; exact Nat.mod_lt _ hn
 have := (h.rep (m / n) h2 (m % n) h3).one (h1 _ (List.getElem_mem h2) _ (List.getElem_mem h3))
 rw [Nat.div_add_mod', Array.getD_eq_getD_getElem?, Array.getElem?_eq_getElem hm] at this
 simpa using this
theorem ArrRep.take {n : Nat} {rows : List (List V)} {c : Array Value} (h : ArrRep ρ I w n rows c) : ArrRep ρ I w n rows (c.toList.take (rows.length * n)).toArray where
 size := by have := h.size; simp; omega
 row := h.row
 rep := fun i hi j hj => by
  have hlt : i * n + j < rows.length * n := by
   have h1 : (i + 1) * n ≤ rows.length * n := Nat.mul_le_mul_right _ hi
   rw [Nat.add_mul, Nat.one_mul] at h1
   have := h.row i hi; omega
  have := h.rep i hi j hj
  rw [Array.getD_eq_getD_getElem?] at this ⊢
  simpa [List.getElem?_take, hlt] using this
theorem zsize {z : Value} {e n : Nat} (hz : zOf P e = some z) (hk : rowOk (constV z) = true) (hkl : (toRow (constV z)).length = n) : z.cells.size = n :=
 ((constV_rep (ρ := fun _ => none) (I := fun _ => False) (w := default) z).row (rowOk_or hk)).1.trans hkl
theorem OpW.append [Glb] {y' : V} {x y : Operand} {t t2 e : TypeId} {o n len byt : Nat} {ow : Own} {z : Value} {src : List (List V)} {N id : Nat} (hx : evO G x = .msl o n 0 len) (hσ : σ o = some ow) (hk : ow.k = n) (hlen : ow.rows.length = len)
  (he : elOf P t = some e) (hn : szOf P e = some n) (hn0 : n ≠ 0) (hb : bytOf P e = some byt) (hb0 : byt ≠ 0) (hz : zOf P e = some z) (hzk : rowOk (constV z) = true) (hzl : (toRow (constV z)).length = n) (ht2 : seqT P t2 = true)
  (hy : NilV (evO G y) y') (hs : srcRows σ y' = some src) (hl : ∀ r ∈ src, r.length = n) (h1 : RowsOne src) (hbnd : (2 * (len + src.length) + 1000) * byt ≤ 2 ^ 48) :
  OpW P (appendOp x y t t2) G σ N id (.msl id n 0 (len + src.length)) (upd (del σ o) id (some ⟨n, ow.rows ++ src⟩)) :=
 .of_value fun op ho ρ I a w hh hid hg => by
  subst hk
  obtain ⟨b, cap, cs, el, hρ, hblk, hcs, hcap, hmax, hxv⟩ := (evO_rep hg (x := x) (by simp [appendOp, Op.operands, Call.operands])).toMsl hx
  obtain ⟨arr, hfc, hlo, has, hA⟩ := run_src (P := P) hh hn0 (hy.rep (evO_rep hg (x := y) (by simp [appendOp, Op.operands, Call.operands]))) hs hl
  obtain ⟨c, e', hblk', hnI, hA0⟩ := hh.arr hσ hρ ⟨_, _, hblk⟩
  have hcc : cs = c ∧ el = e' := hblk.eq hblk'
  obtain ⟨rfl, rfl⟩ := hcc
  have hblk := hblk'
  have hrl : ow.rows.length * ow.k = len * ow.k := by rw [hlen]
  have hdel : ∀ m y, del σ o m = some y → σ m = some y := fun m y h => by
   by_cases hm : m = o
   ·simp [del, hm] at h
   ·simpa [del, hm] using h
  by_cases hfit : len + src.length ≤ cap
  ·have hle2 : (len + src.length) * ow.k ≤ cap * ow.k := Nat.mul_le_mul_right _ hfit
   rw [Nat.add_mul] at hle2
   rw [Nat.zero_add] at hcs
   have hrun := run_append_in (P := P) (ty := op.type) (n := ow.k) (off := 0) he hn ht2 hlo hfit (hfc w rfl) hblk (by omega) (hA.ones has h1)
   have hAc := ArrRep.append (c3 := (cs.toList.drop (len * ow.k + arr.toList.length)).toArray) hA0.take hA (by have := hA0.size; simp; omega)
   have hsz3 : (cs.toList.take (0 + len * ow.k) ++ arr.toList ++ cs.toList.drop (0 + len * ow.k + arr.toList.length)).toArray.size = cs.size := by simp; omega
   have hp := put_block (w' := w.setRow b (cs.toList.take (0 + len * ow.k) ++ arr.toList ++ cs.toList.drop (0 + len * ow.k + arr.toList.length)).toArray) (σ1 := del σ o) (id := id) (b := b) (e := el)
    (c := (cs.toList.take (0 + len * ow.k) ++ arr.toList ++ cs.toList.drop (0 + len * ow.k + arr.toList.length)).toArray) (x := ⟨ow.k, ow.rows ++ src⟩) hh hdel
    (fun m y h hr => by
     by_cases hm : m = o
     ·simp [del, hm] at h
     ·exact hm (hh.inj m o y ow b (hdel m y h) hσ hr hρ)) (.inl ⟨o, ow, hσ, hρ⟩) (fun b' h => by rw [hid] at h; cases h) hnI rfl rfl rfl (by simp [World.setRow])
    (fun b' h1 h2 => by simp [World.setRow, Array.getElem?_modify, Ne.symm h2]) (.inl (setRow_heap w b cs _ el (0, 0) hblk))
    (.setRow hblk hsz3)
    (by
     have e1 : (cs.toList.take (0 + len * ow.k) ++ arr.toList ++ cs.toList.drop (0 + len * ow.k + arr.toList.length)).toArray = (cs.toList.take (ow.rows.length * ow.k)).toArray ++ arr ++ (cs.toList.drop (len * ow.k + arr.toList.length)).toArray := by
      apply Array.ext'; simp [hlen]
     rw [e1]; exact hAc)
   refine ⟨.slice (some ⟨b, 0, none⟩) (len + src.length) cap, _, _, ?_, hp.1, hp.2, upd_ids, ?_⟩
   ·rw [exec_append ho, hxv, Nat.zero_mul, hrun]; rfl
   ·have hblk2 : Blk (w.setRow b (cs.toList.take (0 + len * ow.k) ++ arr.toList ++ cs.toList.drop (0 + len * ow.k + arr.toList.length)).toArray) b _ el := setRow_heap w b cs _ el (0, 0) hblk
    have := RepV.msl (ρ := upd ρ id (some b)) (I := I) (o := id) (k := ow.k) (off := 0) (len := len + src.length) (cap := cap) (upd_same _ _ _) hblk2.w (by rw [hsz3, Nat.zero_add]; omega) hfit hmax
    simpa using this
  ·have hA0' : ∃ arr0, (∀ w' : World, w'.heap = w.heap → (Builtin.firstCells ow.k len (.slice (some ⟨b, 0 * ow.k, none⟩) len cap)).run P w' = .ok arr0 w') ∧ arr0.size = ow.rows.length * ow.k ∧ ArrRep ρ I w ow.k ow.rows arr0 := by
    obtain ⟨arr0, k1, k2, k3, k4⟩ := run_src (P := P) (n := ow.k) (rows := ow.rows) hh hn0 (v := .msl o ow.k 0 len) (hxv ▸ hx ▸ evO_rep hg (x := x) (by simp [appendOp, Op.operands, Call.operands])) (by
     simp only [srcRows, hσ, Nat.zero_add, hlen, Nat.le_refl, and_self, if_true, List.drop_zero]
     rw [List.take_of_length_le (by omega)]) (fun r hr => by
     obtain ⟨i, hi, rfl⟩ := List.getElem_of_mem hr; exact hA0.row i hi)
    rw [hlen] at k1
    exact ⟨arr0, k1, k3, k4⟩
   obtain ⟨arr0, hold, hs0, hAr0⟩ := hA0'
   have hzs := zsize hz hzk hzl
   obtain ⟨newCap, d, hnc1, hnc2, hrun⟩ := run_append_new (P := P) (ty := op.type) (n := ow.k) (sCap := cap) (base := some ⟨b, 0 * ow.k, none⟩) (s := .slice (some ⟨b, 0 * ow.k, none⟩) len cap) rfl he hn hb hz hb0 ht2 hlo (by omega) hbnd hold hfc
   have hAn := ArrRep.append (c3 := Builtin.zeroCells z.cells (newCap - (len + src.length))) hAr0 hA (by omega)
   have hnn := (hh.forget (σ' := del σ o) hdel).new e hid hAn d
   simp only at hnn
   have hst := hnn.1
   refine ⟨.slice (some ⟨w.heap.size, 0, none⟩) (len + src.length) newCap, _, _, ?_, ⟨hst.toKept.unforget hdel, hst.ids⟩, hnn.2.1, upd_ids, ?_⟩
   ·rw [exec_append ho, hxv, hrun]; rfl
   ·have hsz4 : (arr0 ++ arr ++ Builtin.zeroCells z.cells (newCap - (len + src.length))).size = newCap * ow.k := by
     simp only [Array.size_append, zeroCells_size, hzs, hs0, has, hlen]
     rw [← Nat.add_mul, ← Nat.add_mul]; congr 1; omega
    have := RepV.msl (ρ := upd ρ id (some w.heap.size)) (I := I) (o := id) (k := ow.k) (off := 0) (len := len + src.length) (cap := newCap) (upd_same _ _ _) hnn.2.2.w (by rw [hsz4, Nat.zero_add]; exact Nat.le_refl _) hnc1 hnc2
    simpa using this
theorem ArrRep.drop {n m : Nat} {rows : List (List V)} {c : Array Value} (h : ArrRep ρ I w n rows c) : ArrRep ρ I w n (rows.drop m) (c.toList.drop (m * n)).toArray where
 size := by
  have := h.size
  rw [List.length_drop, Nat.sub_mul]; simp; omega
 row := fun i hi => by
  rw [List.getElem_drop]; exact h.row _ _
 rep := fun i hi j hj => by
  rw [List.length_drop] at hi
  have e1 : (rows.drop m)[i] = rows[m + i] := List.getElem_drop ..
  have := h.rep (m + i) (by omega) j (by rw [← e1]; exact hj)
  have e2 : ((c.toList.drop (m * n)).toArray).getD (i * n + j) undef = c.getD ((m + i) * n + j) undef := by
   simp only [Array.getD_eq_getD_getElem?, List.getElem?_toArray, List.getElem?_drop, Array.getElem?_toList]
   congr 2; rw [Nat.add_mul]; omega
  rw [e2]
  have e3 : (rows.drop m)[i][j] = rows[m + i][j]'(by rw [← e1]; exact hj) := by congr 1
  rw [e3]; exact this
abbrev copyOp (x y : Operand) (t t2 : TypeId) : Op := .call { callee := .builtin .copy, args := #[x, y], argTypes := #[t, t2] }
theorem OpW.copy [Glb] {x y : Operand} {t t2 e : TypeId} {o n len : Nat} {ow : Own} {src : List (List V)} {N id : Nat} (hx : evO G x = .msl o n 0 len) (hσ : σ o = some ow) (hk : ow.k = n) (hlen : ow.rows.length = len)
  (he : elOf P t = some e) (hn : szOf P e = some n) (hn0 : n ≠ 0) (hs : srcRows σ (evO G y) = some src) (hl : ∀ r ∈ src, r.length = n) (h1 : RowsOne src) (hle : src.length ≤ len) :
  OpW P (copyOp x y t t2) G σ N id (.d (.val (.int .i64 (src.length : Int)))) (upd σ o (some ⟨n, src ++ ow.rows.drop src.length⟩)) :=
 .of_value fun op ho ρ I a w hh hid hg => by
  subst hk
  obtain ⟨b, cap, cs, el, hρ, hblk, hcs, hcap, hmax, hxv⟩ := (evO_rep hg (x := x) (by simp [copyOp, Op.operands, Call.operands])).toMsl hx
  obtain ⟨arr, hfc, hlo, has, hA⟩ := run_src (P := P) hh hn0 (evO_rep hg (x := y) (by simp [copyOp, Op.operands, Call.operands])) hs hl
  obtain ⟨c, e', hblk', hnI, hA0⟩ := hh.arr hσ hρ ⟨_, _, hblk⟩
  have hcc : cs = c ∧ el = e' := hblk.eq hblk'
  obtain ⟨rfl, rfl⟩ := hcc
  have hblk := hblk'
  have hfit : arr.size ≤ cs.size := by
   have h2 := hA0.size
   have h3 : src.length * ow.k ≤ ow.rows.length * ow.k := Nat.mul_le_mul_right _ (by omega)
   omega
  have hAc := ArrRep.append (c3 := #[]) hA (hA0.drop (m := src.length)) has
  have hst := run_storeCells_at (P := P) b 0 el arr.toList 0 cs w hblk (by simpa using hfit) (hA.ones has h1)
  have hc' : (cs.toList.take (0 + 0) ++ arr.toList ++ cs.toList.drop (0 + 0 + arr.toList.length)).toArray = arr ++ (cs.toList.drop (src.length * ow.k)).toArray ++ #[] := by
   apply Array.ext'; simp [has]
  rw [hc'] at hst
  obtain ⟨h1', h2'⟩ := hh.write hσ hρ hblk (c' := arr ++ (cs.toList.drop (src.length * ow.k)).toArray ++ #[]) (by simp; omega) (x' := ⟨ow.k, src ++ ow.rows.drop src.length⟩) hAc
  refine ⟨_, ρ, _, ?_, h1', h2', fun _ _ => rfl, .d (.val (.int .i64 (src.length : Int)) rfl)⟩
  simp only [execOp, ho, resolve, invoke, builtin, pure_bind, Sem.run_bind]
  have hmin : Nat.min src.length len = src.length := Nat.min_eq_left hle
  simp only [List.map_toArray, List.map_cons, List.map_nil, Builtin.copy_, List.getElem?_toArray, List.getElem?_cons_zero, List.getElem?_cons_succ, Sem.run_bind, run_underlying (run_elOf he), Result.andThen_ok, run_szOf hn, Sem.run_pure, hxv, hlo, hmin, hfc w rfl, Nat.zero_mul, hst, goInt]
theorem nilFirst {n : Nat} : ∀ w' : World, w'.heap = w.heap → (Builtin.firstCells n 0 (.slice none 0 0)).run P w' = .ok #[] w' := fun w' _ => by simp [Builtin.firstCells]
theorem nilRep {n : Nat} : ArrRep ρ I w n [] #[] := ⟨by simp, fun i hi => absurd hi (by simp), fun i hi => absurd hi (by simp)⟩
theorem OpW.append_nil [Glb] {y' : V} {x y : Operand} {t t2 e : TypeId} {n byt : Nat} {z : Value} {src : List (List V)} {N id : Nat} (hx : evO G x = .d (.val (.slice none 0 0)))
  (he : elOf P t = some e) (hn : szOf P e = some n) (hn0 : n ≠ 0) (hb : bytOf P e = some byt) (hb0 : byt ≠ 0) (hz : zOf P e = some z) (hzk : rowOk (constV z) = true) (hzl : (toRow (constV z)).length = n) (ht2 : seqT P t2 = true)
  (hy : NilV (evO G y) y') (hs : srcRows σ y' = some src) (hne : src ≠ []) (hl : ∀ r ∈ src, r.length = n) (hbnd : (2 * src.length + 1000) * byt ≤ 2 ^ 48) :
  OpW P (appendOp x y t t2) G σ N id (.msl id n 0 src.length) (upd σ id (some ⟨n, src⟩)) :=
 .of_value fun op ho ρ I a w hh hid hg => by
  have hxv := (evO_rep hg (x := x) (by simp [appendOp, Op.operands, Call.operands])).val hx
  obtain ⟨arr, hfc, hlo, has, hA⟩ := run_src (P := P) hh hn0 (hy.rep (evO_rep hg (x := y) (by simp [appendOp, Op.operands, Call.operands]))) hs hl
  have hpos : 0 < src.length := List.length_pos_iff.2 hne
  have hzs := zsize hz hzk hzl
  obtain ⟨newCap, d, hnc1, hnc2, hrun⟩ := run_append_new (P := P) (ty := op.type) (n := n) (sLen := 0) (sCap := 0) (base := none) (s := .slice none 0 0) rfl he hn hb hz hb0 ht2 hlo (by omega) (by rw [Nat.zero_add]; exact hbnd) nilFirst hfc
  have hAn := ArrRep.append (c3 := Builtin.zeroCells z.cells (newCap - (0 + src.length))) (nilRep (n := n)) hA (by simp)
  have hnn := hh.new e hid hAn d
  simp only [List.nil_append] at hnn
  refine ⟨.slice (some ⟨w.heap.size, 0, none⟩) src.length newCap, _, _, ?_, hnn.1, hnn.2.1, upd_ids, ?_⟩
  ·rw [exec_append ho, hxv, hrun, Nat.zero_add]; rfl
  ·have hsz4 : (#[] ++ arr ++ Builtin.zeroCells z.cells (newCap - (0 + src.length)) : Array Value).size = newCap * n := by
    simp only [Array.size_append, zeroCells_size, hzs, has, List.size_toArray, List.length_nil]
    rw [Nat.zero_add, ← Nat.add_mul]; congr 1; omega
   have := RepV.msl (ρ := upd ρ id (some w.heap.size)) (I := I) (o := id) (k := n) (off := 0) (len := src.length) (cap := newCap) (upd_same _ _ _) hnn.2.2.w (by rw [hsz4, Nat.zero_add]; exact Nat.le_refl _) (by omega) hnc2
   simpa using this
theorem OpP.append_nil [Glb] {y' : V} {x y : Operand} {t t2 e : TypeId} {n byt : Nat} {z : Value} {ys : List (List D)} (hx : evO G x = .d (.val (.slice none 0 0)))
  (he : elOf P t = some e) (hn : szOf P e = some n) (hn0 : n ≠ 0) (hb : bytOf P e = some byt) (hb0 : byt ≠ 0) (hz : zOf P e = some z) (hzk : rowOk (constV z) = true) (hzl : (toRow (constV z)).length = n) (ht2 : seqT P t2 = true)
  (hy : NilV (evO G y) y') (hs : srcRows σ y' = some (ys.map (·.map .d))) (hl : ∀ r ∈ ys, r.length = n) (hbnd : (2 * ys.length + 1000) * byt ≤ 2 ^ 48) : OpP P (appendOp x y t t2) G σ (.d (.sl ys)) := by
 intro op ho ρ I a w hh hg K Q hK
 have hxv := (evO_rep hg (x := x) (by simp [appendOp, Op.operands, Call.operands])).val hx
 obtain ⟨arr, hfc, hlo, has, hA⟩ := run_src (P := P) hh hn0 (hy.rep (evO_rep hg (x := y) (by simp [appendOp, Op.operands, Call.operands]))) hs (fun r hr => by
  obtain ⟨d, hd, rfl⟩ := List.mem_map.1 hr; rw [List.length_map]; exact hl d hd)
 rw [List.length_map] at hfc hlo has
 show op.upon P a K Q ((execOp a.eval op).run P w)
 rw [exec_append ho, hxv]
 by_cases h0 : ys.length = 0
 ·have : ys = [] := List.eq_nil_of_length_eq_zero h0
  subst this
  have hrun : (Builtin.append_ #[t, t2] op.type #[.slice none 0 0, a.eval y]).run P w = .ok (.slice none 0 0) w := by
   obtain ⟨d2, hd2, hd3⟩ := run_seqT ht2
   have hf0 := hfc w rfl
   simp only [List.length_nil] at hf0 hlo
   unfold Builtin.append_
   simp only [List.getElem?_toArray, List.getElem?_cons_zero, List.getElem?_cons_succ, Sem.run_bind, run_underlying (run_elOf he), Result.andThen_ok, run_szOf hn, Sem.run_pure, run_underlying hd2]
   cases d2
   case int k => exact absurd rfl (hd3 k)
   all_goals
    simp only [Bool.false_eq_true, if_false, hlo, Result.andThen_ok, Sem.run_bind, Bool.not_false, if_true, Nat.add_zero, Nat.le_refl, hf0, Sem.run_pure]
  rw [hrun]
  exact hK _ I w (Pure.refl hh.lt) (.d (.nil none 0))
 ·have hzs := zsize hz hzk hzl
  obtain ⟨newCap, d, hnc1, hnc2, hrun⟩ := run_append_new (P := P) (ty := op.type) (n := n) (sLen := 0) (sCap := 0) (base := none) (s := .slice none 0 0) rfl he hn hb hz hb0 ht2 hlo (by omega) (by rw [Nat.zero_add]; exact hbnd) nilFirst hfc
  rw [hrun, Nat.zero_add]
  refine hK _ (fun b => I b ∨ b = w.heap.size) _ ⟨⟨rfl, rfl, rfl, by simp, fun k hk => by simp [Array.getElem?_push, Nat.ne_of_lt hk]⟩, fun b h => .inl h, fun b h => h.imp id (fun h => by omega), fun b h => ?_⟩ (.d ?_)
  ·rcases h with h | h
   ·have := hh.lt b h; simp; omega
   ·simp; omega
  ·have hAn := ArrRep.append (c3 := Builtin.zeroCells z.cells (newCap - ys.length)) (nilRep (n := n) (ρ := ρ) (I := I) (w := w)) hA (by simp)
   rw [List.nil_append] at hAn
   have hsz4 : (#[] ++ arr ++ Builtin.zeroCells z.cells (newCap - ys.length) : Array Value).size = newCap * n := by
    simp only [Array.size_append, zeroCells_size, hzs, has, List.size_toArray, List.length_nil]
    rw [Nat.zero_add, ← Nat.add_mul]; congr 1; omega
   have hdn : ∀ i (hi : i < ys.length), ys[i].length = n := fun i hi => hl _ (List.getElem_mem hi)
   refine .sl w.heap.size 0 newCap n ys (fun i j => (#[] ++ arr ++ Builtin.zeroCells z.cells (newCap - ys.length) : Array Value).getD (i * n + j) undef) (.inr rfl) (by omega) hnc2 (fun row hm => hl row hm) (fun i j hi hj => ?_) (fun i j hi hj => ?_)
   ·have hlt : i * n + j < (#[] ++ arr ++ Builtin.zeroCells z.cells (newCap - ys.length) : Array Value).size := by
     have : (i + 1) * n ≤ newCap * n := Nat.mul_le_mul_right _ (by omega)
     rw [Nat.add_mul, Nat.one_mul] at this
     have := hdn i hi; omega
    rw [Nat.zero_add]
    have hb2 : Blk { w with heap := w.heap.push (.cells (#[] ++ arr ++ Builtin.zeroCells z.cells (newCap - ys.length)) e), drawn := d } w.heap.size (#[] ++ arr ++ Builtin.zeroCells z.cells (newCap - ys.length)) e := by simp [Blk]
    exact blk_cell hb2 hlt
   ·have := hAn.rep i (by simpa using hi) j (by simpa using hj)
    simp only [List.getElem_map] at this
    exact (this.toD rfl).mono (fun b h => .inl h) (fun b hb => by have := hh.lt b hb; simp [Array.getElem?_push, Nat.ne_of_lt this])
theorem OpW.makeSlice [Glb] {x y : Operand} {t e : TypeId} {n byt l c : Nat} {z : Value} {N id : Nat} (hx : evO G x = .d (.val (.int .i64 (l : Int)))) (hy : evO G y = .d (.val (.int .i64 (c : Int)))) (hlc : l ≤ c)
  (he : elOf P t = some e) (hn : szOf P e = some n) (hn0 : n ≠ 0) (hb : bytOf P e = some byt) (hb0 : byt ≠ 0) (hz : zOf P e = some z) (hzk : rowOk (constV z) = true) (hzl : (toRow (constV z)).length = n) (hbnd : c * byt ≤ 2 ^ 48) :
  OpW P (.makeSlice t x y) G σ N id (.msl id n 0 l) (upd σ id (some ⟨n, List.replicate l (toRow (constV z))⟩)) :=
 .of_value fun op ho ρ I a w hh hid hg => by
  have hxv := (evO_rep hg (x := x) (by simp [Op.operands])).val hx
  have hyv := (evO_rep hg (x := y) (by simp [Op.operands])).val hy
  obtain ⟨ti, hti, hti2⟩ := run_bytOf hb
  have hzs := zsize hz hzk hzl
  obtain ⟨k1, k2⟩ := (constV_rep (ρ := ρ) (I := I) (w := w) z).row (rowOk_or hzk)
  have hc48 : c ≤ 2 ^ 48 := by
   have : c * 1 ≤ c * byt := Nat.mul_le_mul_left _ (by omega)
   omega
  have hwl : IntKind.i64.wrap (l : Int) = l := by
   simp only [IntKind.wrap, IntKind.bits, IntKind.signed, Bool.true_and]
   split <;> simp only [decide_eq_true_eq, ge_iff_le] at * <;> omega
  have hwc : IntKind.i64.wrap (c : Int) = c := by
   simp only [IntKind.wrap, IntKind.bits, IntKind.signed, Bool.true_and]
   split <;> simp only [decide_eq_true_eq, ge_iff_le] at * <;> omega
  let cells : Array Value := if c * n = 0 then (Array.range (c * n)).map ((#[] : Array Value)[· % (#[] : Array Value).size]!) else (Array.range (c * n)).map (z.cells[· % z.cells.size]!)
  have hcs : cells.size = c * n := by simp only [cells]; split <;> simp
  have hA : ArrRep ρ I w n (List.replicate l (toRow (constV z))) cells := by
   refine ⟨by rw [hcs, List.length_replicate]; exact Nat.mul_le_mul_right _ hlc, fun i hi => by rw [List.getElem_replicate]; exact hzl, fun i hi j hj => ?_⟩
   simp only [List.getElem_replicate] at hj ⊢
   simp only [List.length_replicate] at hi
   have hj' : j < n := by omega
   have hlt : i * n + j < c * n := by
    have : (i + 1) * n ≤ c * n := Nat.mul_le_mul_right _ (by omega)
    rw [Nat.add_mul, Nat.one_mul] at this; omega
   have e1 : cells.getD (i * n + j) undef = z.cells.getD j undef := by
    simp only [cells]
    rw [if_neg (by omega)]
    simp only [Array.getD_eq_getD_getElem?, Array.getElem?_map, Array.getElem?_range, hlt, if_true, Option.map_some, Option.getD_some, hzs]
    rw [Nat.add_comm, Nat.add_mul_mod_self_right, Nat.mod_eq_of_lt hj']
    simp [hzs, hj']
   rw [e1]; exact k2 j (by omega)
  obtain ⟨h1, h2, h3⟩ := hh.new e hid hA w.drawn
  refine ⟨.slice (some ⟨w.heap.size, 0, none⟩) l c, _, _, ?_, h1, h2, upd_ids, ?_⟩
  ·have hcb : (byt : Int) * (c : Int) ≤ 2 ^ 48 := by
    have : ((c * byt : Nat) : Int) ≤ ((2 ^ 48 : Nat) : Int) := Int.ofNat_le.2 hbnd
    rw [Int.mul_comm]; simpa using this
   simp only [execOp, ho, hxv, hyv, Instr.makeSlice, Sem.run_bind, run_underlying (run_elOf he), Result.andThen_ok, asInt, asIntOf, Sem.run_pure, hti, hti2, hwl, hwc]
   rw [if_neg (by simp; omega)]
   simp only [Sem.run_bind, run_askRoom, Result.andThen_ok, run_szOf hn, Int.toNat_natCast]
   by_cases h0 : c * n = 0
   ·simp only [h0, if_true, Sem.run_pure, Result.andThen_ok, newRow, Sem.run_bind, run_newObj, cells]
   ·simp only [h0, if_false, Sem.run_bind, run_zOf hz, Sem.run_pure, Result.andThen_ok, newRow, run_newObj, cells]
  ·have := RepV.msl (ρ := upd ρ id (some w.heap.size)) (I := I) (o := id) (k := n) (off := 0) (len := l) (cap := c) (upd_same _ _ _) h3.w (by rw [hcs, Nat.zero_add]; exact Nat.le_refl _) hlc (by omega)
   simpa using this
def elT (P : Program) (t : TypeId) : Option (Nat × Nat × List V) :=
 match elOf P t with
 | some e => match szOf P e, bytOf P e, zOf P e with
  | some n, some byt, some z => if n ≠ 0 ∧ byt ≠ 0 ∧ rowOk (constV z) = true ∧ (toRow (constV z)).length = n then some (n, byt, toRow (constV z)) else none
  | _, _, _ => none
 | none => none
theorem elT_some {t n byt : Nat} {zr : List V} (h : elT P t = some (n, byt, zr)) : ∃ e z, elOf P t = some e ∧ szOf P e = some n ∧ bytOf P e = some byt ∧ zOf P e = some z ∧ n ≠ 0 ∧ byt ≠ 0 ∧ rowOk (constV z) = true ∧ (toRow (constV z)).length = n ∧ zr = toRow (constV z) := by
 unfold elT at h
 split at h
 ·next e he =>
  split at h
  ·next n' b' z h1 h2 h3 =>
   split at h
   ·next hc =>
    simp only [Option.some.injEq, Prod.mk.injEq] at h
    obtain ⟨rfl, rfl, rfl⟩ := h
    exact ⟨e, z, he, h1, h2, h3, hc.1, hc.2.1, hc.2.2.1, hc.2.2.2, rfl⟩
   ·cases h
  ·cases h
 ·cases h
def cutStr (s : ByteArray) (lo hi : Option Int) : Option ByteArray :=
 let h := hi.getD s.size
 let l := lo.getD 0
 if 0 ≤ l ∧ l ≤ h ∧ h ≤ s.size then some (s.extract l.toNat h.toNat) else none
def intOfV : V → Option Int | .d (.val (.int _ n)) => some n | _ => none
def boundV (G : Nat → V) : Option Operand → Option (Option Int)
 | none => some none
 | some x => (intOfV (evO G x)).map some
theorem OpP.slice_str [Glb] {t : TypeId} {x : Operand} {lo hi : Option Operand} {s r : ByteArray} {l h : Option Int} (hx : evO G x = .d (.val (.string s))) (hu : P.underlying t = some .string) (hlo : boundV G lo = some l) (hhi : boundV G hi = some h) (hr : cutStr s l h = some r) :
  OpP P (.slice t x lo hi none) G σ (.d (.val (.string r))) :=
 .of_run fun op ho ρ I a w hh hg => by
  have hxv := (evO_rep hg (x := x) (by simp [Op.operands])).val hx
  have bound : ∀ (b : Option Operand) (v : Option Int), (∀ y, b = some y → y ∈ (Op.slice t x lo hi none).operands) → boundV G b = some v → ∃ k : Int → IntKind, (b.map a.eval) = v.map (fun n => Value.int (k n) n) := by
   intro b v hb hv
   cases b with
   | none => simp only [boundV, Option.some.injEq] at hv; subst hv; exact ⟨fun _ => .i64, rfl⟩
   | some y =>
    simp only [boundV] at hv
    have hy := evO_rep hg (hb y rfl)
    generalize evO G y = vy at hv hy
    unfold intOfV at hv
    split at hv
    ·next k n => simp only [Option.map_some, Option.some.injEq] at hv; subst hv; exact ⟨fun _ => k, by simp [hy.val rfl]⟩
    ·simp at hv
  obtain ⟨kl, hl⟩ := bound lo l (fun y hy => by simp [Op.operands, hy]) hlo
  obtain ⟨kh, hh'⟩ := bound hi h (fun y hy => by simp [Op.operands, hy]) hhi
  unfold cutStr at hr
  simp only at hr
  split at hr
  ·next hc =>
   cases hr
   have hsz := ((evO_rep hg (x := x) (by simp [Op.operands])).toD hx).okv
   refine ⟨.string (s.extract ((l.getD 0).toNat) ((h.getD s.size).toNat)), ?_, .d (.val _ (by simp only [okVal, decide_eq_true_eq, ByteArray.size_extract] at hsz ⊢; omega))⟩
   simp only [execOp, ho, hxv, hl, hh', Option.map_none, Instr.sliceAt, Sem.run_bind, run_underlying hu, Result.andThen_ok, Instr.slice, Option.isSome_none, Bool.false_eq_true, if_false]
   cases l with
   | none =>
    cases h with
    | none => simp [Instr.sliceBounds]
    | some h => simp only [Option.getD_some, Option.getD_none] at hc; simp [Instr.sliceBounds, Instr.sliceBound, asIntOf, show (0:Int) ≤ h by omega, show h ≤ (s.size:Int) by omega]
   | some l =>
    cases h with
    | none => simp only [Option.getD_some, Option.getD_none] at hc; simp [Instr.sliceBounds, Instr.sliceBound, asIntOf, show (0:Int) ≤ l by omega, show l ≤ (s.size:Int) by omega]
    | some h =>
     simp only [Option.getD_some] at hc
     have e : ((h.toNat : Nat) : Int) = h := by omega
     simp [Instr.sliceBounds, Instr.sliceBound, asIntOf, show (0:Int) ≤ h by omega, show h ≤ (s.size:Int) by omega, show (0:Int) ≤ l by omega, show l ≤ h by omega, e]
  ·cases hr
def cutL {α : Type} (xs : List α) (lo hi : Option Int) : Option (List α) :=
 let h := hi.getD xs.length
 let l := lo.getD 0
 if 0 ≤ l ∧ l ≤ h ∧ h ≤ xs.length then some ((xs.drop l.toNat).take (h.toNat - l.toNat)) else none
theorem RepD.cut {I : Nat → Prop} {w : World} {xs : List (List D)} {s l h : Nat} {c : Value} (hx : RepD I w (.sl xs) c) (hs : ∀ row ∈ xs, row.length = s) (h1 : l ≤ h) (h2 : h ≤ xs.length) :
  ∃ a cap, c = .slice a xs.length cap ∧ xs.length ≤ cap ∧ ∀ a', (if cap = l then a else a.map (·.add (l * s))) = a' → RepD I w (.sl ((xs.drop l).take (h - l))) (.slice a' (h - l) (cap - l)) := by
 cases hx with
 | nil a cap =>
  refine ⟨a, cap, rfl, Nat.zero_le _, fun a' _ => ?_⟩
  have : h = 0 := by simpa using h2
  subst this
  have : l = 0 := by omega
  subst this
  exact .nil _ _
 | sl b off cap k xs f hI hc hm hk hf hr =>
  refine ⟨_, cap, rfl, hc, fun a' ha => ?_⟩
  rcases Nat.lt_or_ge l h with hlt | hge
  ·have hne : ¬ cap = l := by omega
   rw [if_neg hne] at ha
   simp only [Option.map_some, add_addr] at ha
   subst ha
   have hks : k = s := by
    have h0 : 0 < xs.length := by omega
    rw [← hk _ (List.getElem_mem h0), hs _ (List.getElem_mem h0)]
   subst hks
   have hlen : ((xs.drop l).take (h - l)).length = h - l := by simp; omega
   have key : ∀ i (hi : i < ((xs.drop l).take (h - l)).length), ((xs.drop l).take (h - l))[i] = xs[l + i]'(by omega) := fun i hi => by simp
   have := RepD.sl (I := I) (w := w) b (off + l * k) (cap - l) k ((xs.drop l).take (h - l)) (fun i j => f (l + i) j) hI (by omega) (by omega)
    (fun row hr' => hk row (List.mem_of_mem_drop (List.mem_of_mem_take hr'))) (fun i j hi hj => by
     have hj' : j < (xs[l + i]'(by omega)).length := by rw [← key i hi]; exact hj
     have := hf (l + i) j (by omega) hj'
     rw [Nat.add_mul, ← Nat.add_assoc] at this
     exact this) (fun i j hi hj => by
     have hj' : j < (xs[l + i]'(by omega)).length := by rw [← key i hi]; exact hj
     have := hr (l + i) j (by omega) hj'
     simp only [key i hi]
     exact this)
   rw [hlen] at this
   exact this
  ·have : h = l := by omega
   subst this
   simp only [Nat.sub_self, List.take_zero]
   exact .nil _ _
theorem OpP.slice_sl [Glb] {t e : TypeId} {x : Operand} {lo hi : Option Operand} {xs r : List (List D)} {l h : Option Int} {s : Nat} (hx : evO G x = .d (.sl xs)) (he : elOf P t = some e) (hsz : szOf P e = some s) (hs : ∀ row ∈ xs, row.length = s) (hlo : boundV G lo = some l) (hhi : boundV G hi = some h) (hr : cutL xs l h = some r) :
  OpP P (.slice t x lo hi none) G σ (.d (.sl r)) :=
 .of_run fun op ho ρ I a w hh hg => by
  have hxr := (evO_rep hg (x := x) (by simp [Op.operands])).toD hx
  have bound : ∀ (b : Option Operand) (v : Option Int), (∀ y, b = some y → y ∈ (Op.slice t x lo hi none).operands) → boundV G b = some v → ∃ k : Int → IntKind, (b.map a.eval) = v.map (fun n => Value.int (k n) n) := by
   intro b v hb hv
   cases b with
   | none => simp only [boundV, Option.some.injEq] at hv; subst hv; exact ⟨fun _ => .i64, rfl⟩
   | some y =>
    simp only [boundV] at hv
    have hy := evO_rep hg (hb y rfl)
    generalize evO G y = vy at hv hy
    unfold intOfV at hv
    split at hv
    ·next k n => simp only [Option.map_some, Option.some.injEq] at hv; subst hv; exact ⟨fun _ => k, by simp [hy.val rfl]⟩
    ·simp at hv
  obtain ⟨kl, hl⟩ := bound lo l (fun y hy => by simp [Op.operands, hy]) hlo
  obtain ⟨kh, hh'⟩ := bound hi h (fun y hy => by simp [Op.operands, hy]) hhi
  unfold cutL at hr
  simp only at hr
  split at hr
  ·next hc =>
   cases hr
   obtain ⟨ad, cap, hv, hcap, hd⟩ := RepD.cut (l := (l.getD 0).toNat) (h := (h.getD xs.length).toNat) hxr hs (by omega) (by omega)
   refine ⟨.slice (if cap = (l.getD 0).toNat then ad else ad.map (·.add ((l.getD 0).toNat * s))) ((h.getD xs.length).toNat - (l.getD 0).toNat) (cap - (l.getD 0).toNat), ?_, .d (hd _ rfl)⟩
   simp only [execOp, ho, hv, hl, hh', Option.map_none, Instr.sliceAt, Sem.run_bind, run_underlying (run_elOf he), Result.andThen_ok, Instr.slice]
   cases l with
   | none =>
    cases h with
    | none => simp [Instr.sliceBounds, run_szOf hsz]
    | some h => simp only [Option.getD_some, Option.getD_none] at hc; simp [Instr.sliceBounds, Instr.sliceBound, asIntOf, run_szOf hsz, show (0:Int) ≤ h by omega, show h ≤ (cap:Int) by omega]
   | some l =>
    cases h with
    | none => simp only [Option.getD_some, Option.getD_none] at hc; simp [Instr.sliceBounds, Instr.sliceBound, asIntOf, run_szOf hsz, show (0:Int) ≤ l by omega, show l ≤ (xs.length:Int) by omega]
    | some h =>
     simp only [Option.getD_some] at hc
     have e : ((h.toNat : Nat) : Int) = h := by omega
     simp [Instr.sliceBounds, Instr.sliceBound, asIntOf, run_szOf hsz, show (0:Int) ≤ h by omega, show h ≤ (cap:Int) by omega, show (0:Int) ≤ l by omega, show l ≤ h by omega, e]
  ·cases hr
theorem HeapOk.trunc [Glb] (hh : HeapOk σ ρ I w) {o n : Nat} {x : Own} (ho : σ o = some x) (hB : x.k ≠ 2) : HeapOk (upd σ o (some ⟨x.k, x.rows.take n⟩)) ρ I w := by
 have src : ∀ m y, upd σ o (some ⟨x.k, x.rows.take n⟩) m = some y → ∃ z, σ m = some z ∧ z.k = y.k ∧ ∃ j, y.rows = z.rows.take j := fun m y hm => by
  by_cases e : m = o
  ·subst e; rw [upd_same] at hm; cases hm; exact ⟨x, ho, rfl, n, rfl⟩
  ·rw [upd_ne _ _ e] at hm; exact ⟨y, hm, rfl, y.rows.length, by rw [List.take_length]⟩
 refine ⟨fun m y hm => ?_, fun m m' y y' b h1 h2 h3 h4 => ?_, hh.base⟩
 ·obtain ⟨z, hz, hk, j, hj⟩ := src m y hm
  obtain ⟨b, c, e, k1, k2, k3, k4, k5⟩ := hh.own m z hz
  have hlen : y.rows.length ≤ z.rows.length := by rw [hj, List.length_take]; omega
  have k2' : BlkX w b c e y := by
   by_cases e : m = o
   ·subst e; rw [ho] at hz; cases hz; exact .inl (k2.resolve_right fun h => hB h.1)
   ·rw [upd_ne _ _ e] at hm; rw [hz] at hm; cases hm; exact k2
  refine ⟨b, c, e, k1, k2', Nat.le_trans (by rw [← hk]; exact Nat.mul_le_mul_right _ hlen) k3, k4, fun i hi => ?_⟩
  have hi' : i < z.rows.length := by omega
  have he : y.rows[i] = z.rows[i] := by simp only [hj, List.getElem_take]
  obtain ⟨q1, q2⟩ := k5 i hi'
  refine ⟨by rw [he, ← hk]; exact q1, fun j hj' => ?_⟩
  simp only [he] at hj' ⊢
  rw [← hk]; exact q2 j hj'
 ·obtain ⟨z, hz, _⟩ := src m y h1
  obtain ⟨z', hz', _⟩ := src m' y' h2
  exact hh.inj m m' z z' b hz hz' h3 h4
def mslV (o k off n : Nat) : V := if n = 0 then .d (.sl []) else .msl o k off n
theorem boundV_rep [Glb] {xs : Array Operand} (hg : OkOn G ρ I w a xs) {b : Option Operand} {v : Option Int} (hb : ∀ y, b = some y → y ∈ xs) (hv : boundV G b = some v) : ∃ k : Int → IntKind, (b.map a.eval) = v.map (fun n => Value.int (k n) n) := by
 cases b with
 | none => simp only [boundV, Option.some.injEq] at hv; subst hv; exact ⟨fun _ => .i64, rfl⟩
 | some y =>
  simp only [boundV] at hv
  have hy := evO_rep hg (hb y rfl)
  generalize evO G y = vy at hv hy
  unfold intOfV at hv
  split at hv
  ·next k n => simp only [Option.map_some, Option.some.injEq] at hv; subst hv; exact ⟨fun _ => k, by simp [hy.val rfl]⟩
  ·simp at hv
theorem OpP.slice_msl [Glb] {t e : TypeId} {x : Operand} {lo hi : Option Operand} {h : Option Int} {o k off len : Nat} (hx : evO G x = .msl o k off len) (he : elOf P t = some e) (hsz : szOf P e = some k) (hlo : boundV G lo = some none) (hhi : boundV G hi = some h) (h0 : 0 ≤ h.getD len) (h1 : h.getD len ≤ len) :
  OpP P (.slice t x lo hi none) G σ (.msl o k off (h.getD len).toNat) := .of_run fun op hop ρ I a w hh hg => by
  obtain ⟨b, cap, cs, el, hb, hblk, hs, hl, hm, hv⟩ := (evO_rep hg (x := x) (by simp [Op.operands])).toMsl hx
  obtain ⟨kl, hl'⟩ := boundV_rep hg (b := lo) (fun y hy => by simp [Op.operands, hy]) hlo
  obtain ⟨kh, hh'⟩ := boundV_rep hg (b := hi) (fun y hy => by simp [Op.operands, hy]) hhi
  refine ⟨.slice (some ⟨b, off * k, none⟩) (h.getD len).toNat cap, ?_, .msl hb hblk hs (by omega) hm⟩
  simp only [execOp, hop, hv, hl', hh', Option.map_none, Instr.sliceAt, Sem.run_bind, run_underlying (run_elOf he), Result.andThen_ok, Instr.slice]
  cases h with
  | none =>
   by_cases hc : cap = 0 <;> simp [Instr.sliceBounds, Instr.sliceBound, asIntOf, run_szOf hsz, hc]
   all_goals rfl
  | some h =>
   simp only [Option.getD_some] at h0 h1
   by_cases hc : cap = 0
   ·have e0 : h = 0 := by omega
    subst e0 hc
    simp [Instr.sliceBounds, Instr.sliceBound, asIntOf, run_szOf hsz]
   ·simp [Instr.sliceBounds, Instr.sliceBound, asIntOf, run_szOf hsz, h0, show h ≤ (cap : Int) by omega, hc]; rfl
theorem OpP.slice_mslL [Glb] {t e : TypeId} {x : Operand} {lo hi : Option Operand} {l : Int} {h : Option Int} {o k off len : Nat} (hx : evO G x = .msl o k off len) (he : elOf P t = some e) (hsz : szOf P e = some k) (hlo : boundV G lo = some (some l)) (hhi : boundV G hi = some h) (h0 : 0 ≤ l) (h1 : l ≤ h.getD len) (h2 : h.getD len ≤ len) :
  OpP P (.slice t x lo hi none) G σ (mslV o k (off + l.toNat) (h.getD len - l).toNat) := .of_run fun op hop ρ I a w hh hg => by
  obtain ⟨b, cap, cs, el, hb, hblk, hs, hl, hm, hv⟩ := (evO_rep hg (x := x) (by simp [Op.operands])).toMsl hx
  obtain ⟨kl, hl'⟩ := boundV_rep hg (b := lo) (fun y hy => by simp [Op.operands, hy]) hlo
  obtain ⟨kh, hh'⟩ := boundV_rep hg (b := hi) (fun y hy => by simp [Op.operands, hy]) hhi
  have hrun : (execOp a.eval op).run P w = .ok (.value (.slice (if cap = l.toNat then some ⟨b, off * k, none⟩ else some (Addr.add ⟨b, off * k, none⟩ (l.toNat * k))) (h.getD len - l).toNat (cap - l.toNat))) w := by
   simp only [execOp, hop, hv, hl', hh', Option.map_none, Instr.sliceAt, Sem.run_bind, run_underlying (run_elOf he), Result.andThen_ok, Instr.slice]
   obtain ⟨l, rfl⟩ : ∃ m : Nat, l = m := ⟨l.toNat, by omega⟩
   cases h with
   | none =>
    simp only [Option.getD_none] at h1 ⊢
    have e2 : ((len : Int) - (l : Int)).toNat = len - l := by omega
    simp [Instr.sliceBounds, Instr.sliceBound, asIntOf, run_szOf hsz, show l ≤ len by omega, e2]
   | some h =>
    obtain ⟨h, rfl⟩ : ∃ m : Nat, h = m := ⟨h.toNat, by simp only [Option.getD_some] at h1; omega⟩
    simp only [Option.getD_some] at h1 h2 ⊢
    have e2 : ((h : Int) - (l : Int)).toNat = h - l := by omega
    simp [Instr.sliceBounds, Instr.sliceBound, asIntOf, run_szOf hsz, show l ≤ h by omega, show h ≤ cap by omega, e2]
  refine ⟨_, hrun, ?_⟩
  unfold mslV; split
  ·next h3 => rw [h3]; exact .d (.nil _ _)
  ·next h3 =>
   rw [if_neg (by omega)]
   have e1 : Addr.add ⟨b, off * k, none⟩ (l.toNat * k) = ⟨b, (off + l.toNat) * k, none⟩ := by rw [Nat.add_mul, add_addr]
   rw [e1]
   exact .msl hb hblk (by rw [show off + l.toNat + (cap - l.toNat) = off + cap by omega]; exact hs) (by omega) (by omega)
theorem ArrRep.pre {n : Nat} {rows : List (List V)} {c : Array Value} (h : ArrRep ρ I w n rows c) (j : Nat) : ArrRep ρ I w n (rows.take j) c where
 size := by
  have := h.size
  have h1 : (rows.take j).length * n ≤ rows.length * n := Nat.mul_le_mul_right _ (by simp; omega)
  omega
 row := fun i hi => by rw [List.getElem_take]; exact h.row i (by simp at hi; omega)
 rep := fun i hi j' hj => by
  have hi' : i < rows.length := by simp at hi; omega
  simp only [List.getElem_take] at hj ⊢
  exact h.rep i hi' j' hj
theorem OpW.copyAt [Glb] {x y : Operand} {t t2 e : TypeId} {o n off len o2 off2 len2 : Nat} {ow ow2 : Own} {N id : Nat} (hx : evO G x = .msl o n off len) (hσ : σ o = some ow) (hk : ow.k = n) (hlen : off + len ≤ ow.rows.length)
  (hy : evO G y = .msl o2 n off2 len2) (hσ2 : σ o2 = some ow2) (hk2 : ow2.k = n) (hlen2 : off2 + len2 ≤ ow2.rows.length) (he : elOf P t = some e) (hn : szOf P e = some n) (hn0 : n ≠ 0) (h1 : RowsOne ow2.rows) :
  OpW P (copyOp x y t t2) G σ N id (.d (.val (.int .i64 ((min len2 len : Nat) : Int)))) (upd σ o (some ⟨n, ow.rows.take off ++ (ow2.rows.drop off2).take (min len2 len) ++ ow.rows.drop (off + min len2 len)⟩)) :=
 .of_value fun op ho ρ I a w hh hid hg => by
  subst hk
  obtain ⟨b, cap, cs, el, hρ, hblk, hcs, hcap, hmax, hxv⟩ := (evO_rep hg (x := x) (by simp [copyOp, Op.operands, Call.operands])).toMsl hx
  obtain ⟨b2, cap2, cs2, el2, hρ2, hblk2, hcs2, hcap2, hmax2, hyv⟩ := (evO_rep hg (x := y) (by simp [copyOp, Op.operands, Call.operands])).toMsl hy
  generalize hm : min len2 len = m
  have hm1 : m ≤ len2 := by omega
  have hm2 : m ≤ len := by omega
  have hrows : ((ow2.rows.drop off2).take m).length = m := by simp; omega
  obtain ⟨c2, e2', hblk2', _, hA2⟩ := hh.arr hσ2 hρ2 ⟨_, _, hblk2⟩
  obtain ⟨arr, hfc, _, has, hA⟩ := run_src (P := P) (n := ow.k) (rows := (ow2.rows.drop off2).take m) hh hn0 (v := .msl o2 ow.k off2 m) (c := .slice (some ⟨b2, off2 * ow.k, none⟩) m cap2) (.msl hρ2 hblk2 hcs2 (by omega) hmax2) (by
   simp only [srcRows, hσ2]
   rw [if_pos ⟨hk2, by omega⟩]) (fun r hr => by
   obtain ⟨i, hi, rfl⟩ := List.getElem_of_mem hr
   rw [List.getElem_take, List.getElem_drop, ← hk2]
   exact hA2.row _ _)
  rw [hrows] at hfc has
  obtain ⟨c, e', hblk', hnI, hA0⟩ := hh.arr hσ hρ ⟨_, _, hblk⟩
  have hcc : cs = c ∧ el = e' := hblk.eq hblk'
  obtain ⟨rfl, rfl⟩ := hcc
  have hblk := hblk'
  have hsz := hA0.size
  have hfit : off * ow.k + m * ow.k ≤ ow.rows.length * ow.k := by rw [← Nat.add_mul]; exact Nat.mul_le_mul_right _ (by omega)
  have hsrc1 : RowsOne ((ow2.rows.drop off2).take m) := fun r hr => h1 r (List.mem_of_mem_drop (List.mem_of_mem_take hr))
  have hP := (hA0.pre off).take
  have hpl : (ow.rows.take off).length = off := by simp; omega
  rw [hpl] at hP
  have hps : (cs.toList.take (off * ow.k)).toArray.size = (ow.rows.take off).length * ow.k := by rw [hpl]; simp; omega
  have hA1 := ArrRep.append (c3 := #[]) hP hA hps
  have hA1s : ((cs.toList.take (off * ow.k)).toArray ++ arr ++ #[]).size = (ow.rows.take off ++ (ow2.rows.drop off2).take m).length * ow.k := by
   simp only [Array.size_append, has, List.length_append, hps, hrows, Nat.add_mul]; simp
  have hAc := ArrRep.append (c3 := #[]) hA1 (hA0.drop (m := off + m)) hA1s
  have hst := run_storeCells_at (P := P) b (off * ow.k) el arr.toList 0 cs w hblk (by simp [has]; omega) (hA.ones (by rw [hrows]; exact has) hsrc1)
  have hc' : (cs.toList.take (off * ow.k + 0) ++ arr.toList ++ cs.toList.drop (off * ow.k + 0 + arr.toList.length)).toArray = (cs.toList.take (off * ow.k)).toArray ++ arr ++ #[] ++ (cs.toList.drop ((off + m) * ow.k)).toArray ++ #[] := by
   apply Array.ext'; simp [has, Nat.add_mul]
  rw [hc'] at hst
  have hszE : ((cs.toList.take (off * ow.k)).toArray ++ arr ++ #[] ++ (cs.toList.drop ((off + m) * ow.k)).toArray ++ #[]).size = cs.size := by
   simp only [Array.size_append, has]; simp [Nat.add_mul]; omega
  obtain ⟨h1', h2'⟩ := hh.write hσ hρ hblk (c' := (cs.toList.take (off * ow.k)).toArray ++ arr ++ #[] ++ (cs.toList.drop ((off + m) * ow.k)).toArray ++ #[]) hszE (x' := ⟨ow.k, ow.rows.take off ++ (ow2.rows.drop off2).take m ++ ow.rows.drop (off + m)⟩) hAc
  refine ⟨_, ρ, _, ?_, h1', h2', fun _ _ => rfl, .d (.val (.int .i64 (m : Int)) rfl)⟩
  simp only [execOp, ho, resolve, invoke, builtin, pure_bind, Sem.run_bind]
  have hmin : Nat.min len2 len = m := hm
  have hfy : (Builtin.firstCells ow.k m (.slice (some ⟨b2, off2 * ow.k, none⟩) len2 cap2)).run P w = .ok arr w := hfc w rfl
  simp only [List.map_toArray, List.map_cons, List.map_nil, Builtin.copy_, Builtin.lenOf, List.getElem?_toArray, List.getElem?_cons_zero, List.getElem?_cons_succ, Sem.run_bind, run_underlying (run_elOf he), Result.andThen_ok, run_szOf hn, Sem.run_pure, hxv, hyv, hmin, hfy, hst, goInt]
def lenSl : V → Option Nat
 | .d (.sl xs) => some xs.length
 | .d (.val (.slice _ n _)) => some n
 | .msl _ _ _ n => some n
 | _ => none
theorem lenSl_rep [Glb] {v : V} {c : Value} {n : Nat} (h : RepV ρ I w v c) (hs : lenSl v = some n) : ∃ b cap, c = .slice b n cap := by
 unfold lenSl at hs
 split at hs
 ·cases hs
  have hd := h.toD rfl
  generalize hX : D.sl _ = X at hd
  cases hd with
  | val => cases hX
  | nil a cap => cases hX; exact ⟨a, cap, rfl⟩
  | sl => cases hX; exact ⟨_, _, rfl⟩
 ·cases hs; exact ⟨_, _, h.val rfl⟩
 ·cases hs; obtain ⟨b, cap, cs, el, _, _, _, _, _, h⟩ := h.toMsl rfl; exact ⟨_, _, h⟩
 ·cases hs
theorem OpW.copy0 [Glb] {x y : Operand} {t t2 e : TypeId} {n lx ly : Nat} {N id : Nat} (hx : lenSl (evO G x) = some lx) (hy : lenSl (evO G y) = some ly) (h0 : lx = 0 ∨ ly = 0) (he : elOf P t = some e) (hn : szOf P e = some n) :
  OpW P (copyOp x y t t2) G σ N id (.d (.val (.int .i64 0))) σ := by
 refine OpP.opW (.of_run fun op ho ρ I a w hh hg => ?_) N id
 obtain ⟨bx, cx, hxv⟩ := lenSl_rep (evO_rep hg (x := x) (by simp [copyOp, Op.operands, Call.operands])) hx
 obtain ⟨by', cy, hyv⟩ := lenSl_rep (evO_rep hg (x := y) (by simp [copyOp, Op.operands, Call.operands])) hy
 have hmin : Nat.min ly lx = 0 := by rcases h0 with rfl | rfl <;> simp
 refine ⟨_, ?_, .d (.val (.int .i64 0) rfl)⟩
 simp only [execOp, ho, resolve, invoke, builtin, pure_bind, Sem.run_bind]
 have hfc : (Builtin.firstCells n 0 (.slice by' ly cy)).run P w = .ok #[] w := by cases by' <;> simp [Builtin.firstCells, loadCells, loadCellsFrom]
 simp only [List.map_toArray, List.map_cons, List.map_nil, Builtin.copy_, Builtin.lenOf, List.getElem?_toArray, List.getElem?_cons_zero, List.getElem?_cons_succ, Sem.run_bind, run_underlying (run_elOf he), Result.andThen_ok, run_szOf hn, Sem.run_pure, hxv, hyv, hmin, hfc]
 cases bx <;> simp [storeCells, goInt]
end
end Go.Iso
namespace Go.Iso
open Go Go.RowKit
set_option linter.unusedSimpArgs false
set_option linter.unusedVariables false
theorem bb_iff {a b : ByteArray} : (a == b) = true ↔ a = b := by
 obtain ⟨a⟩ := a
 obtain ⟨b⟩ := b
 show (a == b) = true ↔ _
 rw [beq_iff_eq]
 exact ⟨fun h => by rw [h], fun h => by cases h; rfl⟩
theorem bb_self {a : ByteArray} : (a == a) = true := bb_iff.2 rfl
theorem bb_ne {a b : ByteArray} (h : ¬ a = b) : (a == b) = false := by
 cases e : a == b with
 | false => rfl
 | true => exact absurd (bb_iff.1 e) h
def MKey.of : Value → Option MKey
 | .string s => some (.str s)
 | .int k n => some (.int k n)
 | _ => none
theorem MKey.of_some {c : Value} {s : MKey} (h : MKey.of c = some s) : c = s.v := by
 unfold MKey.of at h; split at h <;> cases h <;> rfl
theorem MKey.of_v (s : MKey) : MKey.of s.v = some s := by cases s <;> rfl
def MKey.like : MKey → MKey → Bool
 | .str _, .str _ => true
 | .int k _, .int j _ => decide (k = j)
 | _, _ => false
def rowKey : List V → Option MKey
 | [.d (.val c), _] => MKey.of c
 | _ => none
def rowIs (s : MKey) : List V → Bool
 | [.d (.val c), .d _] => match MKey.of c with
  | some k => MKey.like s k
  | none => false
 | _ => false
theorem rowIs_ex {s : MKey} {r : List V} (h : rowIs s r = true) : ∃ k y, r = [.d (.val k.v), .d y] ∧ s.like k = true := by
 unfold rowIs at h; split at h
 ·next c y =>
  split at h
  ·next k hk => exact ⟨k, y, by rw [MKey.of_some hk], h⟩
  ·cases h
 ·cases h
def mOk (s : MKey) (rows : List (List V)) : Bool := rows.all (rowIs s)
def mGet (s : MKey) : List (List V) → Option V
 | [] => none
 | r :: t => if rowKey r = some s then some (r.getD 1 .any) else mGet s t
def mPut (s : MKey) (v : V) : List (List V) → List (List V)
 | [] => [[.d (.val s.v), v]]
 | r :: t => if rowKey r = some s then [.d (.val s.v), v] :: t else r :: mPut s v t
section
variable {P : Program} {G : Nat → V} {σ : Heap} {ρ : Nat → Option Nat} {I : Nat → Prop} {w : World} {a : Act}
def MapZip (I : Nat → Prop) (w : World) (q : MKey) : List MapEntry → List (List V) → Prop
 | [], [] => True
 | e :: es, r :: rows => (∃ (s : MKey) (y : D), r = [.d (.val s.v), .d y] ∧ e.key = s.v ∧ okVal s.v = true ∧ RepD I w y e.val ∧ q.like s = true) ∧ MapZip I w q es rows
 | _, _ => False
theorem flat_get : ∀ (es : List MapEntry) (i : Nat) (h : i < es.length), (es.flatMap fun e => [e.key, e.val])[i * 2]? = some es[i].key ∧ (es.flatMap fun e => [e.key, e.val])[i * 2 + 1]? = some es[i].val
 | e :: es, 0, _ => by simp
 | e :: es, i + 1, h => by
  have := flat_get es i (by simpa using h)
  rw [List.flatMap_cons, show (i + 1) * 2 = i * 2 + 2 by omega, show i * 2 + 2 + 1 = (i * 2 + 1) + 2 by omega]
  simpa using this
theorem flat_len (es : List MapEntry) : (es.flatMap fun e => [e.key, e.val]).length = es.length * 2 := by
 induction es with
 | nil => rfl
 | cons e es ih => rw [List.flatMap_cons, List.length_append, ih]; simp; omega
theorem flatM_get {es : Array MapEntry} {i : Nat} (h : i < es.size) : (flatM es).getD (i * 2) undef = es[i].key ∧ (flatM es).getD (i * 2 + 1) undef = es[i].val := by
 obtain ⟨h1, h2⟩ := flat_get es.toList i (by simpa using h)
 unfold flatM
 simp only [Array.getD_eq_getD_getElem?, List.getElem?_toArray, h1, h2]
 simp
theorem flatM_size {es : Array MapEntry} : (flatM es).size = es.size * 2 := by unfold flatM; rw [List.size_toArray, flat_len]; simp
theorem MapZip.of {q : MKey} : ∀ {es : List MapEntry} {rows : List (List V)}, es.length = rows.length → (∀ i (h : i < es.length) (h' : i < rows.length), ∃ (s : MKey) (y : D), rows[i] = [.d (.val s.v), .d y] ∧ es[i].key = s.v ∧ okVal s.v = true ∧ RepD I w y es[i].val ∧ q.like s = true) → MapZip I w q es rows
 | [], [], _, _ => trivial
 | [], r :: rows, h, _ => by simp at h
 | e :: es, [], h, _ => by simp at h
 | e :: es, r :: rows, h, hq => ⟨hq 0 (by simp) (by simp), MapZip.of (by simpa using h) fun i h1 h2 => hq (i + 1) (by simpa using h1) (by simpa using h2)⟩
theorem MapZip.get {q : MKey} : ∀ {es : List MapEntry} {rows : List (List V)}, MapZip I w q es rows → es.length = rows.length ∧ ∀ i (h : i < es.length) (h' : i < rows.length), ∃ (s : MKey) (y : D), rows[i] = [.d (.val s.v), .d y] ∧ es[i].key = s.v ∧ okVal s.v = true ∧ RepD I w y es[i].val ∧ q.like s = true
 | [], [], _ => ⟨rfl, fun i h => by simp at h⟩
 | [], r :: rows, h => h.elim
 | e :: es, [], h => h.elim
 | e :: es, r :: rows, h => by
  obtain ⟨h1, h2⟩ := h
  obtain ⟨h3, h4⟩ := h2.get
  refine ⟨by simpa using h3, fun i hi hi' => ?_⟩
  cases i with
  | zero => exact h1
  | succ i => exact h4 i (by simpa using hi) (by simpa using hi')
theorem HeapOk.map [Glb] (hh : HeapOk σ ρ I w) {o b : Nat} {x : Own} {q : MKey} (ho : σ o = some x) (hok : mOk q x.rows = true) (hb : ρ o = some b) (hm : IsMap w b) : ∃ es cl, MapAt w b es cl ∧ ¬ I b ∧ x.k = 2 ∧ MapZip I w q es.toList x.rows := by
 obtain ⟨b', c, e, h1, h2, h3, h4, h5⟩ := hh.own o x ho
 rw [hb] at h1; cases h1
 obtain ⟨es, cl, hm⟩ := hm
 rcases h2 with h2 | ⟨hk, ⟨es', cl', h2, rfl, hsz⟩, hrow⟩
 ·have : some (Go.Obj.map es cl) = some (Go.Obj.cells c e (0, 0)) := hm.symm.trans h2
  cases this
 ·refine ⟨es', cl', h2, h4, hk, MapZip.of (by simpa using hsz) fun i hi hi' => ?_⟩
  have hi2 : i < es'.size := by simpa using hi
  obtain ⟨s, y, hr, hlk⟩ := rowIs_ex (List.all_eq_true.1 hok _ (List.getElem_mem hi'))
  obtain ⟨_, h6⟩ := h5 i hi'
  obtain ⟨g1, g2⟩ := flatM_get hi2
  have k1 := h6 0 (by rw [hr]; simp)
  have k2 := h6 1 (by rw [hr]; simp)
  rw [hk] at k1 k2
  simp only [hr, List.getElem_cons_zero, List.getElem_cons_succ, Nat.add_zero, g1, g2] at k1 k2
  have k1 := k1.toD rfl
  refine ⟨s, y, hr, ?_, ?_, by simpa using k2.toD rfl, hlk⟩
  ·have k1' : RepD I w (.val s.v) (es'.toList[i].key) := by simpa using k1
   generalize es'.toList[i].key = kk at k1'
   cases k1'; rfl
  ·generalize es'[i].key = kk at k1
   cases k1 with | val _ h => exact h
theorem flat_own {q : MKey} {es : Array MapEntry} {rows : List (List V)} (hz : MapZip I w q es.toList rows) : ArrRep ρ I w 2 rows (flatM es) ∧ es.size = rows.length ∧ ∀ row ∈ rows, MapRow row := by
 obtain ⟨h1, h2⟩ := hz.get
 have hsz : es.size = rows.length := by simpa using h1
 refine ⟨⟨by rw [flatM_size, hsz]; exact Nat.le_refl _, fun i hi => ?_, fun i hi j hj => ?_⟩, hsz, fun row hr => ?_⟩
 ·obtain ⟨s, y, hr, _⟩ := h2 i (by simpa using (hsz ▸ hi : i < es.size)) hi
  rw [hr]; rfl
 ·have hie : i < es.size := by omega
  obtain ⟨s, y, hr, hk, hok, hv, _⟩ := h2 i (by simpa using hie) hi
  obtain ⟨g1, g2⟩ := flatM_get hie
  have key : ∀ (row : List V) (hrow : row = [.d (.val s.v), .d y]) (hj : j < row.length), RepV ρ I w row[j] ((flatM es).getD (i * 2 + j) undef) := by
   intro row hrow hj
   subst hrow
   match j, hj with
   | 0, _ => rw [Nat.add_zero, g1]; simp at hk; rw [hk]; exact .d (.val _ hok)
   | 1, _ => rw [g2]; simp at hv; exact .d hv
  exact key _ hr hj
 ·obtain ⟨i, hi, rfl⟩ := List.getElem_of_mem hr
  obtain ⟨s, y, hr, _⟩ := h2 i (by simpa using (hsz ▸ hi : i < es.size)) hi
  exact ⟨_, _, hr, .inr ⟨s, rfl⟩, .inr ⟨y, rfl⟩⟩
theorem OpW.makeMap [Glb] {t : TypeId} {N id : Nat} : OpW P (.makeMap t none) G σ N id (.mp id) (upd σ id (some ⟨2, []⟩)) :=
 .of_value fun o ho ρ I a w hh hid _ => by
  let w' : World := { w with heap := w.heap.push (.map #[] 0) }
  have hm : MapAt w' w.heap.size #[] 0 := by simp [MapAt, w']
  have := put_block (w' := w') (σ1 := σ) (id := id) (b := w.heap.size) (c := flatM #[]) (e := 0) (x := ⟨2, []⟩) hh (fun _ _ h => h) (fun o y h hr => by
   have := hh.owns_lt ⟨o, y, h, hr⟩; omega) (.inr (Nat.le_refl _)) (fun b' h => by rw [hid] at h; cases h) (fun h => absurd (hh.lt _ h) (by omega))
   rfl rfl rfl (by simp [w']) (fun b' h _ => by simp [w', Array.getElem?_push, Nat.ne_of_lt h]) (.inr ⟨rfl, ⟨#[], 0, hm, rfl, rfl⟩, fun r h => by cases h⟩) (.of_new (Nat.le_refl _)) ⟨by simp, fun i hi => absurd hi (Nat.not_lt_zero i), fun i hi => absurd hi (Nat.not_lt_zero i)⟩
  refine ⟨.map (some w.heap.size), _, _, ?_, this.1, this.2, upd_ids, .mp (upd_same _ _ _) ⟨_, _, hm⟩⟩
  simp [execOp, ho, Instr.makeMap, newObj, Sem.run, w']
def mapT (P : Program) (t : TypeId) : Option Value :=
 match P.underlying t with
 | some (.map k e) => match P.underlying k with
  | some .string => zOf P e
  | _ => none
 | _ => none
theorem mapT_some {t : TypeId} {z : Value} (h : mapT P t = some z) : ∃ k e, P.underlying t = some (.map k e) ∧ P.underlying k = some .string ∧ zOf P e = some z := by
 unfold mapT at h
 split at h
 ·next k e h1 =>
  split at h
  ·next h2 => exact ⟨k, e, h1, h2, h⟩
  ·cases h
 ·cases h
def mapK (P : Program) (t : TypeId) (s : MKey) : Option Value :=
 match P.underlying t with
 | some (.map k e) => match P.underlying k, s with
  | some .string, .str _ => zOf P e
  | some (.int _), .int _ _ => zOf P e
  | _, _ => none
 | _ => none
def keyT (d : TypeDesc) (s : MKey) : Prop := match d, s with
 | .string, .str _ => True
 | .int _, .int _ _ => True
 | _, _ => False
theorem mapK_some {t : TypeId} {s : MKey} {z : Value} (h : mapK P t s = some z) : ∃ k e d, P.underlying t = some (.map k e) ∧ P.underlying k = some d ∧ keyT d s ∧ zOf P e = some z := by
 unfold mapK at h
 split at h
 ·next k e h1 =>
  split at h
  ·next h2 => exact ⟨k, e, _, h1, h2, trivial, h⟩
  ·next h2 => exact ⟨k, e, _, h1, h2, trivial, h⟩
  ·cases h
 ·cases h
theorem mapT_key {t : TypeId} {z : Value} {s : ByteArray} (h : mapT P t = some z) : mapK P t (.str s) = some z := by
 obtain ⟨k, e, h1, h2, h3⟩ := mapT_some h
 unfold mapK; rw [h1]; simp only; rw [h2]; exact h3
theorem same_now {d : TypeDesc} {s k : MKey} (hd : keyT d s) (h : s.like k = true) : Instr.sameNow d s.v k.v = some (decide (s = k)) := by
 unfold keyT at hd
 split at hd
 ·cases k with
  | str b =>
   next a =>
   simp only [MKey.v, Instr.sameNow, MKey.str.injEq, Option.some.injEq]
   by_cases e : a = b
   ·subst e; simp [bb_self]
   ·simp [bb_ne e, e]
  | int => cases h
 ·cases k with
  | int j n =>
   simp only [MKey.like, decide_eq_true_eq] at h
   subst h
   simp only [MKey.v, Instr.sameNow, if_true, MKey.int.injEq, true_and, Option.some.injEq]
   rfl
  | str => cases h
 ·exact hd.elim
theorem like_self {s : MKey} : s.like s = true := by cases s <;> simp [MKey.like]
theorem find_now {d : TypeDesc} {s : MKey} (hd : keyT d s) : ∀ (es : List MapEntry) (rows : List (List V)) (i : Nat), MapZip I w s es rows →
  ∃ r, Instr.findNow d s.v es i = some r ∧ (match r with | some (j, v) => ∃ x, mGet s rows = some x ∧ RepV ρ I w x v ∧ i ≤ j ∧ j < i + es.length ∧ ((es[j - i]?).map (·.key)) = some s.v | none => mGet s rows = none)
 | [], [], i, _ => ⟨none, rfl, rfl⟩
 | [], r :: rows, i, h => h.elim
 | e :: es, [], i, h => h.elim
 | e :: es, r :: rows, i, h => by
  obtain ⟨⟨s', y, rfl, hk, hok, hv, hlk⟩, h2⟩ := h
  obtain ⟨ek, ev, eb⟩ := e
  simp only at hk hv
  subst hk
  have hsm := same_now hd hlk
  by_cases hs : s = s'
  ·subst hs
   refine ⟨some (i, ev), ?_, .d y, by simp [mGet, rowKey, MKey.of_v], .d hv, Nat.le_refl _, by simp, by simp⟩
   unfold Instr.findNow; rw [hsm]; simp
  ·obtain ⟨q, h3, h4⟩ := find_now hd es rows (i + 1) h2
   have hmg : mGet s ([.d (.val s'.v), .d y] :: rows) = mGet s rows := by
    conv => lhs; unfold mGet
    rw [if_neg (by simp [rowKey, MKey.of_v]; exact fun e => hs e.symm)]
   refine ⟨q, ?_, ?_⟩
   ·unfold Instr.findNow; rw [hsm]; simp [hs, h3]
   rw [hmg]
   cases q with
   | none => exact h4
   | some q =>
    obtain ⟨j, v⟩ := q
    obtain ⟨x, g1, g2, g3, g4, g5⟩ := h4
    refine ⟨x, g1, g2, by omega, by simp; omega, ?_⟩
    rw [show j - i = (j - (i + 1)) + 1 by omega]
    simpa using g5
theorem run_checkKey {em : Bool} {n : Nat} {k : TypeId} {d : TypeDesc} {s : MKey} (hk : P.underlying k = some d) (hd : keyT d s) : (Instr.checkKey em (n + 1) k s.v).run P w = .ok () w := by
 unfold keyT at hd
 split at hd
 ·unfold Instr.checkKey; simp [underlying, hk]
 ·unfold Instr.checkKey; simp [underlying, hk]
 ·exact hd.elim
theorem run_findKey {k : TypeId} {d : TypeDesc} {s : MKey} {es : List MapEntry} {q : Option (Nat × Value)} (hk : P.underlying k = some d) (hq : Instr.findNow d s.v es 0 = some q) : (Instr.findKey k s.v es).run P w = .ok q w := by
 unfold Instr.findKey; simp [underlying, hk, hq]
def lookV (ok : Bool) (x : Option V) (z : V) : V := if ok then .tup [x.getD z, .d (.val (.bool x.isSome))] else x.getD z
theorem OpP.lookup [Glb] {t : TypeId} {x ix : Operand} {o : Nat} {ow : Own} {s : MKey} {z : Value} {ok : Bool} (h : evO G x = .mp o) (hi : evO G ix = .d (.val s.v)) (hσ : σ o = some ow) (hok : mOk s ow.rows = true) (ht : mapK P t s = some z) :
  OpP P (.lookup t x ix ok) G σ (lookV ok (mGet s ow.rows) (constV z)) :=
 .of_run fun o' ho ρ I a w hh hg => by
  obtain ⟨k, e, d, hu, hk, hd, hz⟩ := mapK_some ht
  obtain ⟨b, hb, hm, he⟩ := (evO_rep hg (x := x) (by simp [Op.operands])).toMp h
  have hn := (evO_rep hg (x := ix) (by simp [Op.operands])).val hi
  obtain ⟨es, cl, hat, hI, hk2, hzip⟩ := hh.map hσ hok hb hm
  obtain ⟨q, hq, hres⟩ := find_now (ρ := ρ) (s := s) hd es.toList ow.rows 0 hzip
  have hat' : w.heap[b]? = some (Go.Obj.map es cl) := hat
  have hz' : (zeroValue e).run P w = .ok z w := run_zOf hz
  cases q with
  | none =>
   rw [hres]
   refine ⟨if ok then .tuple #[z, .bool false] else z, ?_, ?_⟩
   ·simp [execOp, ho, he, hn, Instr.lookup, underlying, hu, getObj, Sem.run, hat', run_checkKey (n := 9999) hk hd, run_findKey hk hq, hz']
   ·cases ok with
    | true =>
     refine .tup rfl fun i hi => ?_
     match i, hi with
     | 0, _ => exact constV_rep z
     | 1, _ => exact .d (.val _ rfl)
    | false => exact constV_rep z
  | some q =>
   obtain ⟨j, v⟩ := q
   obtain ⟨x', g1, g2, _⟩ := hres
   rw [g1]
   refine ⟨if ok then .tuple #[v, .bool true] else v, ?_, ?_⟩
   ·simp [execOp, ho, he, hn, Instr.lookup, underlying, hu, getObj, Sem.run, hat', run_checkKey (n := 9999) hk hd, run_findKey hk hq, hz']
   ·cases ok with
    | true =>
     refine .tup rfl fun i hi => ?_
     match i, hi with
     | 0, _ => exact g2
     | 1, _ => exact .d (.val _ rfl)
    | false => exact g2
theorem zip_put {d : TypeDesc} {s : MKey} (hd : keyT d s) {y : D} {value : Value} {cl : Nat} (hs : okVal s.v = true) (hy : RepD I w y value) : ∀ (es : List MapEntry) (rows : List (List V)) (i : Nat), MapZip I w s es rows →
  ∃ r, Instr.findNow d s.v es i = some r ∧ (match r with
   | some (j, _) => i ≤ j ∧ ((es[j - i]?).map (·.key)) = some s.v ∧ MapZip I w s (es.modify (j - i) fun e => { e with key := s.v, val := value }) (mPut s (.d y) rows)
   | none => MapZip I w s (es ++ [⟨s.v, value, cl⟩]) (mPut s (.d y) rows))
 | [], [], i, _ => ⟨none, rfl, ⟨s, y, rfl, rfl, hs, hy, like_self⟩, trivial⟩
 | [], r :: rows, i, h => h.elim
 | e :: es, [], i, h => h.elim
 | e :: es, r :: rows, i, h => by
  obtain ⟨⟨s', y', rfl, hk, hok, hv, hlk⟩, h2⟩ := h
  obtain ⟨ek, ev, eb⟩ := e
  simp only at hk hv
  subst hk
  have hsm := same_now hd hlk
  by_cases he : s = s'
  ·subst he
   refine ⟨some (i, ev), (by unfold Instr.findNow; rw [hsm]; simp), Nat.le_refl _, by simp, ?_⟩
   have : mPut s (.d y) ([.d (.val s.v), .d y'] :: rows) = [.d (.val s.v), .d y] :: rows := by unfold mPut; rw [if_pos (by simp [rowKey, MKey.of_v])]
   rw [this, Nat.sub_self]
   exact ⟨⟨s, y, rfl, rfl, hs, hy, like_self⟩, h2⟩
  ·obtain ⟨q, h3, h4⟩ := zip_put hd hs hy es rows (i + 1) h2
   have hmp : mPut s (.d y) ([.d (.val s'.v), .d y'] :: rows) = [.d (.val s'.v), .d y'] :: mPut s (.d y) rows := by
    conv => lhs; unfold mPut
    rw [if_neg (by simp [rowKey, MKey.of_v]; exact fun e => he e.symm)]
   refine ⟨q, (by unfold Instr.findNow; rw [hsm]; simp [he, h3]), ?_⟩
   rw [hmp]
   cases q with
   | none => exact ⟨⟨s', y', rfl, rfl, hok, hv, hlk⟩, h4⟩
   | some q =>
    obtain ⟨j, v⟩ := q
    obtain ⟨g1, g2, g3⟩ := h4
    refine ⟨by omega, ?_, ?_⟩
    ·rw [show j - i = (j - (i + 1)) + 1 by omega]; simpa using g2
    ·rw [show j - i = (j - (i + 1)) + 1 by omega, List.modify_succ_cons]
     exact ⟨⟨s', y', rfl, rfl, hok, hv, hlk⟩, g3⟩
theorem HeapOk.putMap [Glb] (hh : HeapOk σ ρ I w) {q : MKey} {o b : Nat} {x : Own} {es es' : Array MapEntry} {cl cl' : Nat} (ho : σ o = some x) (hb : ρ o = some b) (hat : MapAt w b es cl) {rows : List (List V)} (hz : MapZip I w q es'.toList rows) :
  Step σ ρ I w (upd σ o (some ⟨2, rows⟩)) ρ I { w with heap := w.heap.setIfInBounds b (.map es' cl') } ∧ HeapOk (upd σ o (some ⟨2, rows⟩)) ρ I { w with heap := w.heap.setIfInBounds b (.map es' cl') } := by
 have hρ : upd ρ o (some b) = ρ := by
  funext m; by_cases h : m = o
  ·rw [h, upd_same, hb]
  ·rw [upd_ne _ _ h]
 have hσ : upd (del σ o) o (some ⟨2, rows⟩) = upd σ o (some ⟨2, rows⟩) := by
  funext m; by_cases h : m = o
  ·rw [h, upd_same, upd_same]
  ·rw [upd_ne _ _ h, upd_ne _ _ h, del, if_neg h]
 have hI : ¬ I b := fun h => hh.notOwned h ⟨o, x, ho, hb⟩
 have hlt := hat.lt
 obtain ⟨k1, k2, k3⟩ := flat_own (ρ := ρ) hz
 have hnew : MapAt { w with heap := w.heap.setIfInBounds b (.map es' cl') } b es' cl' := by simp [MapAt, hlt]
 have := put_block (w' := { w with heap := w.heap.setIfInBounds b (.map es' cl') }) (σ1 := del σ o) (id := o) (b := b) (e := 0) (c := flatM es') (x := ⟨2, rows⟩) hh (fun m y h => by
   by_cases hm : m = o
   ·simp [del, hm] at h
   ·simpa [del, hm] using h) (fun m y h hr => by
   by_cases hm : m = o
   ·simp [del, hm] at h
   ·exact hm (hh.inj m o y x b (by simpa [del, hm] using h) ho hr hb)) (.inl ⟨o, x, ho, hb⟩) (fun b' h => by rw [hb] at h; cases h; rfl) hI
   rfl rfl rfl (by simp) (fun b' h1 h2 => by simp [Array.getElem?_setIfInBounds, Ne.symm h2]) (.inr ⟨rfl, ⟨es', cl', hnew, rfl, k2⟩, k3⟩)
   ⟨fun c0 e0 h => (by obtain ⟨m, h⟩ := h; unfold MapAt at hat; rw [hat] at h; cases h), fun _ => ⟨es', cl', hnew⟩⟩ k1
 rw [hρ, hσ] at this
 exact this
theorem run_stays {s : MKey} : (Instr.keyThatStays s.v s.v).run P w = .ok s.v w := by
 have : Instr.sameBits 10000 s.v s.v = true := by
  cases s with
  | str s => exact bb_self
  | int k n => simp [MKey.v, Instr.sameBits]
 unfold Instr.keyThatStays; rw [this]; rfl
theorem run_update {t : TypeId} {b : Nat} {s : MKey} {d : TypeDesc} {value : Value} {es : Array MapEntry} {cl : Nat} {k e : TypeId} {y : D} {rows : List (List V)} (hu : P.underlying t = some (.map k e)) (hk : P.underlying k = some d) (hd : keyT d s) (hat : MapAt w b es cl) (hs : okVal s.v = true) (hy : RepD I w y value) (hz : MapZip I w s es.toList rows) :
  ∃ es' cl', (Instr.mapUpdate t (.map (some b)) s.v value).run P w = .ok () { w with heap := w.heap.setIfInBounds b (.map es' cl') } ∧ MapZip I w s es'.toList (mPut s (.d y) rows) := by
 obtain ⟨q, hq, hres⟩ := zip_put (cl := cl) hd hs hy es.toList rows 0 hz
 have hat' : w.heap[b]? = some (Go.Obj.map es cl) := hat
 cases q with
 | none =>
  refine ⟨es.push ⟨s.v, value, cl⟩, cl + 1, ?_, by simpa using hres⟩
  simp [Instr.mapUpdate, underlying, hu, getObj, setObj, Sem.run, hat', run_checkKey (n := 9999) hk hd, run_findKey hk hq]
 | some q =>
  obtain ⟨j, v⟩ := q
  obtain ⟨_, g2, g3⟩ := hres
  rw [Nat.sub_zero] at g2 g3
  refine ⟨es.modify j fun e => { e with key := s.v, val := value }, cl, ?_, by simpa using g3⟩
  have g2' : (es[j]?).map (·.key) = some s.v := by simpa using g2
  simp [Instr.mapUpdate, underlying, hu, getObj, setObj, Sem.run, hat', run_checkKey (n := 9999) hk hd, run_findKey hk hq, g2', run_stays]
theorem OpW.mapUpdate [Glb] {t : TypeId} {m k x : Operand} {N id o : Nat} {ow : Own} {s : MKey} {y : D} {z : Value} (h : evO G m = .mp o) (hi : evO G k = .d (.val s.v)) (hx : evO G x = .d y) (hσ : σ o = some ow) (hok : mOk s ow.rows = true) (ht : mapK P t s = some z) :
  OpW P (.mapUpdate t m k x) G σ N id .any (upd σ o (some ⟨2, mPut s (.d y) ow.rows⟩)) :=
 .of_skip fun o' ho ρ I a w hh hid hg => by
  obtain ⟨kt, e, d, hu, hk, hd, hz⟩ := mapK_some ht
  obtain ⟨b, hb, hm, he⟩ := (evO_rep hg (x := m) (by simp [Op.operands])).toMp h
  have hn := (evO_rep hg (x := k) (by simp [Op.operands])).toD hi
  have hv := (evO_rep hg (x := x) (by simp [Op.operands])).toD hx
  obtain ⟨es, cl, hat, hI, hk2, hzip⟩ := hh.map hσ hok hb hm
  have hs : okVal s.v = true ∧ a.eval k = s.v := by
   generalize a.eval k = c at hn
   cases hn with | val _ h => exact ⟨h, rfl⟩
  obtain ⟨es', cl', h1, h2⟩ := run_update (P := P) hu hk hd hat hs.1 hv hzip
  obtain ⟨h3, h4⟩ := hh.putMap hσ hb hat (cl' := cl') h2
  refine ⟨ρ, _, ?_, h3, h4, fun _ _ => rfl⟩
  simp [execOp, ho, he, hs.2, h1]
theorem OpW.insert [Glb] {t : TypeId} {m k x : Operand} {N id o : Nat} {ow : Own} {s : MKey} {y : D} {z : Value} (h : evO G m = .mp o) (hi : evO G k = .d (.val s.v)) (hx : evO G x = .d y) (hσ : σ o = some ow) (hok : mOk s ow.rows = true) (ht : mapK P t s = some z) :
  OpW P (.insert t m k x) G σ N id .any (upd σ o (some ⟨2, mPut s (.d y) ow.rows⟩)) :=
 .of_skip fun o' ho ρ I a w hh hid hg => by
  obtain ⟨kt, e, d, hu, hk, hd, hz⟩ := mapK_some ht
  obtain ⟨b, hb, hm, he⟩ := (evO_rep hg (x := m) (by simp [Op.operands])).toMp h
  have hn := (evO_rep hg (x := k) (by simp [Op.operands])).toD hi
  have hv := (evO_rep hg (x := x) (by simp [Op.operands])).toD hx
  obtain ⟨es, cl, hat, hI, hk2, hzip⟩ := hh.map hσ hok hb hm
  have hs : okVal s.v = true ∧ a.eval k = s.v := by
   generalize a.eval k = c at hn
   cases hn with | val _ h => exact ⟨h, rfl⟩
  obtain ⟨es', cl', h1, h2⟩ := run_update (P := P) hu hk hd hat hs.1 hv hzip
  obtain ⟨h3, h4⟩ := hh.putMap hσ hb hat (cl' := cl') h2
  refine ⟨ρ, _, ?_, h3, h4, fun _ _ => rfl⟩
  simp [execOp, ho, he, hs.2, h1]
end
end Go.Iso
namespace Go.Iso
open Go Go.RowKit
set_option linter.unusedSimpArgs false
set_option linter.unusedVariables false
def slotOnly : Op → Bool
 | .move _ | .assign _ | .pick .. | .binOp .. | .unOp .. | .fieldAddr .. | .field .. | .indexAddr .. | .extract .. | .makeFunc .. | .convert .. | .index .. | .build .. | .slice .. | .nilCheck _ => true
 | .call { callee := .builtin .len, .. } | .call { callee := .builtin .min, .. } | .call { callee := .builtin .max, .. } => true
 | _ => false
def isW : Op → Bool
 | .store .. | .alloc .. | .box .. | .makeSlice .. | .makeMap .. | .mapUpdate .. | .insert .. => true
 | .call { callee := .builtin .append, .. } | .call { callee := .builtin .copy, .. } | .call { callee := .builtin .delete, .. } => true
 | _ => false
structure Wit {α : Type} {β : Sort 1} (f : α → β) : Type where
def Hold {α : Type} {β : Sort 1} (f : α → β) : Wit f := ⟨⟩
def Later {α : Type} {β : Sort 1} {f : α → β} (_ : Wit f) : α → β := f
theorem nrfl' {α : Sort 1} {a b : α} (h : a = b) : a = b := h
theorem nrfl {α : Type} {a b : α} (h : a = b) : a = b := h
theorem Later_apply {α : Type} {β : Sort 1} (f : α → β) (x : α) : Later (Hold f) x = f x := by cases Hold f; exact nrfl' rfl
def pickK (v x y : V) (K : V → Prop) : Prop := match v with | .d (.val (.bool t)) => (t = true → K x) ∧ (t = false → K y) | _ => False
def moveK (x : V) (K : V → Prop) : Prop := K x
def optK {α : Type} (o : Option α) (K : α → Prop) : Prop := match o with | some x => K x | none => False
def loadK (agg : Option Bool) (n : Option Nat) (σ : Heap) (x : V) (K : V → Prop) : Prop :=
 match agg, n, x with
 | some g, some m, .iptr cs => optK (ldV g m (cs.map .d)) K
 | some g, some m, .ptr o k i j => optK (σ o) (Later (Hold fun ow => ow.k = k ∧ optK ow.rows[i]? (Later (Hold fun row => optK (ldV g m (row.drop j)) K))))
 | _, _, _ => False
def fldK (fd : Option (Nat × TypeId)) (x : V) (K : V → Prop) : Prop :=
 match fd, x with
 | some (off, _), .iptr cs => K (.iptr (cs.drop off))
 | some (off, _), .ptr o k i j => K (.ptr o k i (j + off))
 | _, _ => False
def fdOf (P : Program) (s : TypeId) (f : Nat) : Option (Nat × TypeId) :=
 match fldOf P s f with
 | some (off, ft) => match szOf P ft with
  | some (_ + 1) => some (off, ft)
  | _ => none
 | none => none
def partK (fd : Option (Nat × Nat × Bool)) (x : V) (K : V → Prop) : Prop :=
 match fd, x with
 | some (off, n, agg), .agg cs => optK (ldV agg n (cs.drop off)) K
 | _, _ => False
def ptOf (P : Program) (s : TypeId) (f : Nat) : Option (Nat × Nat × Bool) :=
 match fldOf P s f with
 | some (off, ft) => match szOf P ft, aggOf P ft with
  | some n, some g => some (off, n, g)
  | _, _ => none
 | none => none
def esOf (P : Program) (t : TypeId) : Option Nat := (elOf P t).bind (szOf P)
def idxK (es : Option Nat) (x ix : V) (K : V → Prop) : Prop :=
 match es, x, ix with
 | some s, .d (.sl xs), .d (.val (.int _ n)) => 0 ≤ n ∧ optK xs[n.toNat]? (Later (Hold fun row => row.length = s ∧ K (.iptr row)))
 | some s, .msl o k off len, .d (.val (.int _ n)) => 0 ≤ n ∧ n < (len : Int) ∧ s = k ∧ K (.ptr o k (off + n.toNat) 0)
 | _, _, _ => False
def valK (r : Option Value) (K : V → Prop) : Prop := match r with | some c => K (.d (.val c)) | none => False
def bopV (P : Program) (op : BinOp) (t : TypeId) (x y : V) : Option Value := match x, y with | .d (.val c), .d (.val d) => bop P t op c d | .d (.sl (_ :: _)), .d (.val (.slice none 0 0)) => if nilT P t = true then (match op with | .eql => some (.bool false) | .neq => some (.bool true) | _ => none) else none | _, _ => none
def uopV (op : UnOp) (x : V) : Option Value := match x with | .d (.val c) => uop op c | _ => none
def cvV (P : Program) (s d : TypeId) (x : V) : Option Value := match x with | .d (.val c) => cvOf P s d c | _ => none
def b2sT (P : Program) (s d : TypeId) : Bool :=
 match P.underlying s, P.underlying d with
 | some (.slice e), some .string => match P.underlying e with
  | some (.int .u8) => true
  | _ => false
 | _, _ => false
def cnvK (P : Program) (dr : Bool) (σ : Heap) (s d : TypeId) (x : V) (K : V → Prop) : Prop :=
 valK (cvV P s d x) K ∨ (dr = false ∧ b2sT P s d = true ∧ ∃ zs : List Int, SealD σ x (.sl (zs.map fun z => [.val (.int .u8 z)])) ∧ K (.d (.val (.string (strOfNums zs)))))
def copyK (et : Option (Nat × Nat × List V)) (σ : Heap) (x y : V) (K : V → Heap → Prop) : Prop :=
 (∃ n byt z o len ow src, et = some (n, byt, z) ∧ x = .msl o n 0 len ∧ σ o = some ow ∧ ow.k = n ∧ ow.rows.length = len ∧ srcRows σ y = some src ∧ (∀ r ∈ src, r.length = n) ∧ RowsOne src ∧ src.length ≤ len ∧
  K (.d (.val (.int .i64 (src.length : Int)))) (upd σ o (some ⟨n, src ++ ow.rows.drop src.length⟩))) ∨
 (∃ n byt z o off len o2 off2 len2 ow ow2, et = some (n, byt, z) ∧ x = .msl o n off len ∧ σ o = some ow ∧ ow.k = n ∧ off + len ≤ ow.rows.length ∧ y = .msl o2 n off2 len2 ∧ σ o2 = some ow2 ∧ ow2.k = n ∧ off2 + len2 ≤ ow2.rows.length ∧ RowsOne ow2.rows ∧
  K (.d (.val (.int .i64 ((min len2 len : Nat) : Int)))) (upd σ o (some ⟨n, ow.rows.take off ++ (ow2.rows.drop off2).take (min len2 len) ++ ow.rows.drop (off + min len2 len)⟩))) ∨
 (∃ n byt z lx ly, et = some (n, byt, z) ∧ lenSl x = some lx ∧ lenSl y = some ly ∧ (lx = 0 ∨ ly = 0) ∧ K (.d (.val (.int .i64 0))) σ)
def extK (x : V) (n : Nat) (K : V → Prop) : Prop :=
 match x with
 | .tup cs => optK cs[n]? K
 | _ => False
def lookK (mt : Option Value) (σ : Heap) (x ix : V) (ok : Bool) (K : V → Prop) : Prop :=
 match mt, x, ix with
 | some z, .mp o, .d (.val (.string s)) => optK (σ o) (Later (Hold fun ow => mOk (.str s) ow.rows = true ∧ K (lookV ok (mGet (.str s) ow.rows) (constV z))))
 | _, _, _ => False
def mmkK (r : Option Operand) (σ : Heap) (id : Nat) (K : V → Heap → Prop) : Prop :=
 match r with
 | none => K (.mp id) (upd σ id (some ⟨2, []⟩))
 | some _ => False
def mupK (mt : Option Value) (σ : Heap) (x ix y : V) (K : V → Heap → Prop) : Prop :=
 match mt, x, ix, y with
 | some _, .mp o, .d (.val (.string s)), .d y => optK (σ o) (Later (Hold fun ow => mOk (.str s) ow.rows = true ∧ K .any (upd σ o (some ⟨2, mPut (.str s) (.d y) ow.rows⟩))))
 | _, _, _, _ => False
def fnK (fn : Go.Fn) (first caps : Array Operand) (G : Nat → V) (K : V → Prop) : Prop :=
 match fn with
 | .func f => first = #[] ∧ K (.fn f (caps.toList.map (evO G)))
 | _ => False
def nilK (x : V) (K : V → Prop) : Prop := isPtr x = true ∧ K x
def strK (P : Program) (t : TypeId) (x ix : V) (K : V → Prop) : Prop :=
 match x, ix with
 | .d (.val (.string s)), .d (.val (.int _ n)) => P.underlying t = some .string ∧ optK (strAt s n) (Later (Hold fun b => K (.d (.val (.int .u8 b.toNat)))))
 | _, _ => False
def mmV (mx : Bool) (x y : V) : Option Value :=
 match x, y with
 | .d (.val (.int k m)), .d (.val (.int _ n)) => some (.int k (if mx then (if n > m then n else m) else (if n < m then n else m)))
 | _, _ => none
def lenK (P : Program) (t : TypeId) (x : V) (K : V → Prop) : Prop := lenT P t x = true ∧ optK (lenV x) (Later (Hold fun n => K (.d (.val (.int .i64 n)))))
def bltK (P : Program) (b : Builtin) (args : List Operand) (ts : List TypeId) (G : Nat → V) (K : V → Prop) : Prop :=
 match b, args, ts with
 | .len, [x], [t] => lenK P t (evO G x) K
 | .min, [x, y], _ => valK (mmV false (evO G x) (evO G y)) K
 | .max, [x, y], _ => valK (mmV true (evO G x) (evO G y)) K
 | _, _, _ => False
def bldK (ok : Bool) (z : Option Value) (out : List V → Option (List V)) (K : V → Prop) : Prop :=
 match z with
 | some z => ok = true ∧ rowOk (constV z) = true ∧ optK (out (toRow (constV z))) (Later (Hold fun cs => K (.agg cs)))
 | none => False
def sliceK (es : Option Nat) (xs : List (List D)) (l h : Option Int) (K : V → Prop) : Prop :=
 match es with
 | some s => (∀ row ∈ xs, row.length = s) ∧ optK (cutL xs l h) (Later (Hold fun r => K (.d (.sl r))))
 | none => False
def cutK (P : Program) (t : TypeId) (x : V) (lo hi : Option (Option Int)) (K : V → Prop) : Prop :=
 match x, lo, hi with
 | .d (.val (.string s)), some l, some h => P.underlying t = some .string ∧ optK (cutStr s l h) (Later (Hold fun r => K (.d (.val (.string r)))))
 | .d (.sl xs), some l, some h => sliceK (esOf P t) xs l h K
 | .msl o k off len, some none, some h => esOf P t = some k ∧ 0 ≤ h.getD len ∧ h.getD len ≤ len ∧ K (.msl o k off (h.getD len).toNat)
 | .msl o k off len, some (some l), some h => esOf P t = some k ∧ 0 ≤ l ∧ l ≤ h.getD len ∧ h.getD len ≤ len ∧ K (mslV o k (off + l.toNat) (h.getD len - l).toNat)
 | _, _, _ => False
def pcallK [Glb] (P : Program) (σ : Heap) (f : V) (args : List V) (K : V → Prop) : Prop :=
 match f with
 | .fn id caps => ∃ v args', Cn P id args' v ∧ CallA σ (args ++ caps) args' v ∧ K v
 | _ => False
def callK [Glb] (P : Program) (f : V) (args : List V) (σ : Heap) (N id : Nat) (K : V → Heap → Prop) : Prop :=
 match f with
 | .fn g caps => ∃ v σ', ((∃ args', Cn P g args' v ∧ CallA σ (args ++ caps) args' v ∧ σ' = σ) ∨ CallS P g (args ++ caps) σ N id v σ') ∧ K v σ'
 | _ => False
def pv [Glb] (P : Program) (op : Op) (G : Nat → V) (σ : Heap) (K : V → Prop) : Prop :=
 match op with
 | .move x => moveK (evO G x) K
 | .assign x => moveK (evO G x) K
 | .pick c x y => pickK (evO G c) (evO G x) (evO G y) K
 | .load t x => loadK (aggOf P t) (szOf P t) σ (evO G x) K
 | .fieldAddr s x f => fldK (fdOf P s f) (evO G x) K
 | .field s x f => partK (ptOf P s f) (evO G x) K
 | .indexAddr t x ix => idxK (esOf P t) (evO G x) (evO G ix) K
 | .binOp op t x y _ => valK (bopV P op t (evO G x) (evO G y)) K
 | .unOp op _ x => valK (uopV op (evO G x)) K
 | .convert s d x => valK (cvV P s d (evO G x)) K
 | .extract x n => extK (evO G x) n K
 | .makeFunc fn first caps => fnK fn first caps G K
 | .index t x ix => strK P t (evO G x) (evO G ix) K
 | .build t parts => bldK (stOk P t) (zOf P t) (bldV P t (parts.toList.map fun p => (p.1, evO G p.2))) K
 | .slice t x lo hi none => cutK P t (evO G x) (boundV G lo) (boundV G hi) K
 | .nilCheck x => nilK (evO G x) K
 | .lookup t x ix ok => lookK (mapT P t) σ (evO G x) (evO G ix) ok K
 | .call { callee := .builtin b, args, argTypes } => bltK P b args.toList argTypes.toList G K
 | .call { callee := .value f, args, .. } => pcallK P σ (evO G f) (args.toList.map (evO G)) K
 | _ => False
def allocK (z : Option Value) (σ : Heap) (id : Nat) (K : V → Heap → Prop) : Prop :=
 match z with
 | some z => rowOk (constV z) = true ∧ K (.ptr id (toRow (constV z)).length 0 0) (upd σ id (some ⟨(toRow (constV z)).length, [toRow (constV z)]⟩))
 | none => False
def boxK (x : V) (σ : Heap) (id : Nat) (K : V → Heap → Prop) : Prop :=
 rowOk x = true ∧ K (.ptr id (toRow x).length 0 0) (upd σ id (some ⟨(toRow x).length, [toRow x]⟩))
def storeK (n : Option Nat) (x y : V) (σ : Heap) (K : V → Heap → Prop) : Prop :=
 match n, x with
 | some n, .ptr o k i j => optK (σ o) (Later (Hold fun ow => ow.k = k ∧ optK ow.rows[i]? (Later (Hold fun row => rowOk y = true ∧ (∀ v ∈ toRow y, v.one = true) ∧ (toRow y).length = n ∧ j + n ≤ k ∧
   K .any (upd σ o (some ⟨k, ow.rows.set i (putRow row j (toRow y))⟩))))))
 | _, _ => False
def bsK (et : Option (Nat × Nat × List V)) (dr ord : Bool) (len : Nat) (vs : List V) (σ : Heap) (id : Nat) (K : V → Heap → Prop) : Prop :=
 match et with
 | some (n, byt, _) => ord = true ∧ vs.length = len ∧ len * n ≤ 16777216 ∧ (∀ v ∈ vs, rowOk v = true ∧ (toRow v).length = n) ∧
   (match asRows (vs.map toRow), dr || (len != 0 && byt != 1) with
    | some ds, true => K (.d (.sl ds)) σ
    | _, _ => dr = false ∧ K (.msl id n 0 len) (upd σ id (some ⟨n, vs.map toRow⟩)))
 | none => False
def appK (et : Option (Nat × Nat × List V)) (sq : Bool) (σ : Heap) (id : Nat) (x y : V) (K : V → Heap → Prop) : Prop :=
 ∃ n byt z y', et = some (n, byt, z) ∧ sq = true ∧ NilV y y' ∧
  ((∃ o len ow src, x = .msl o n 0 len ∧ σ o = some ow ∧ ow.k = n ∧ ow.rows.length = len ∧ srcRows σ y' = some src ∧ (∀ r ∈ src, r.length = n) ∧ RowsOne src ∧ (2 * (len + src.length) + 1000) * byt ≤ 2 ^ 48 ∧
    K (.msl id n 0 (len + src.length)) (upd (del σ o) id (some ⟨n, ow.rows ++ src⟩))) ∨
   (∃ o src, x = .d (.val (.slice none 0 0)) ∧ srcRows σ y' = some src ∧ src ≠ [] ∧ (∀ r ∈ src, r.length = n) ∧ (2 * src.length + 1000) * byt ≤ 2 ^ 48 ∧ K (.msl id n 0 src.length) (upd (del σ o) id (some ⟨n, src⟩))) ∨
   (∃ ys : List (List D), x = .d (.val (.slice none 0 0)) ∧ srcRows σ y' = some (ys.map (·.map .d)) ∧ (∀ r ∈ ys, r.length = n) ∧ (2 * ys.length + 1000) * byt ≤ 2 ^ 48 ∧ K (.d (.sl ys)) σ))
theorem OpW.rows [Glb] {P : Program} {op : Op} {G : Nat → V} {σ : Heap} {N id : Nat} {v : V} {n l : Nat} {z z' : List V} (h : OpW P op G σ N id v (upd σ id (some ⟨n, List.replicate l z⟩))) (hs : SealAll Heap.none z z') (hm : ∃ len, v = .msl id n 0 len) : OpW P op G σ N id v (upd σ id (some ⟨n, List.replicate l z'⟩)) := by
 intro o ho ρ I a w hh hN hid hg K Q hK
 refine h o ho ρ I a w hh hN hid hg K Q fun c ρ' I' w' st hh' hx hv => hK c ρ' I' w' ⟨st.toKept.owns fun b ⟨p, x, h1, h2⟩ => ?_, st.ids⟩ ⟨fun p x hp => ?_, fun p p' x x' b h1 h2 h3 h4 => ?_, hh'.base⟩ hx hv
 ·by_cases e : p = id
  ·subst e; exact ⟨p, _, upd_same .., h2⟩
  ·rw [upd_ne _ _ e] at h1; exact ⟨p, x, by rw [upd_ne _ _ e]; exact h1, h2⟩
 ·by_cases e : p = id
  ·subst e
   rw [upd_same] at hp
   obtain rfl := Option.some.inj hp
   obtain ⟨b, c', e', k1, k2, k3, k4, k5⟩ := hh'.own p ⟨n, List.replicate l z⟩ (upd_same ..)
   obtain ⟨len, rfl⟩ := hm
   obtain ⟨b', _, cs, el, g1, g2, _⟩ := hv.toMsl rfl
   have hbb : b' = b := by rw [k1] at g1; exact (Option.some.inj g1).symm
   subst hbb
   refine ⟨b', c', e', k1, .inl (k2.blk ⟨_, _, g2⟩), by simpa using k3, k4, fun i hi => ?_⟩
   simp only [List.length_replicate] at hi
   obtain ⟨q1, q2⟩ := k5 i (by simpa using hi)
   simp only [List.getElem_replicate] at q1 q2 ⊢
   refine ⟨by rw [← hs.get.1]; exact q1, fun j hj => ?_⟩
   have hn : HeapOk Heap.none ρ' I' w' := hh'.forget fun o x h => by cases h
   exact ((hs.get.2 j (by rw [hs.get.1]; exact hj) hj).rep hn (q2 j (by rw [hs.get.1]; exact hj))).mono (fun _ _ h => h) (fun b h => h.elim (fun h => h) fun ⟨_, _, h, _⟩ => by cases h) (fun _ _ => rfl) (fun _ => .of_eq rfl)
  ·rw [upd_ne _ _ e] at hp
   exact hh'.own p x (by rw [upd_ne _ _ e]; exact hp)
 ·have key : ∀ p x, upd σ id (some ⟨n, List.replicate l z'⟩) p = some x → ∃ y, upd σ id (some ⟨n, List.replicate l z⟩) p = some y := fun p x h => by
   by_cases e : p = id
   ·subst e; exact ⟨_, upd_same ..⟩
   ·rw [upd_ne _ _ e] at h; exact ⟨x, by rw [upd_ne _ _ e]; exact h⟩
  obtain ⟨y, h1⟩ := key p x h1
  obtain ⟨y', h2⟩ := key p' x' h2
  exact hh'.inj p p' y y' b h1 h2 h3 h4
def mkK (et : Option (Nat × Nat × List V)) (σ : Heap) (id : Nat) (x y : V) (K : V → Heap → Prop) : Prop :=
 match et, x, y with
 | some (n, byt, z), .d (.val (.int .i64 l)), .d (.val (.int .i64 c)) => 0 ≤ l ∧ l ≤ c ∧ c.toNat * byt ≤ 2 ^ 48 ∧ ∃ z', SealAll Heap.none z z' ∧ K (.msl id n 0 l.toNat) (upd σ id (some ⟨n, List.replicate l.toNat z'⟩))
 | _, _, _ => False
def frzK (P : Program) (s : TypeId) (σ : Heap) (x : V) (K : V → Heap → Prop) : Prop :=
 match elOf P s, x with
 | some e, .msl o k 0 len => P.underlying e = some (.int .u8) ∧ k = 1 ∧ optK (σ o) (Later (Hold fun ow => ow.k = 1 ∧ ow.rows.length = len ∧ ∃ ds : List (List D), ow.rows = ds.map (·.map .d) ∧ K (.d (.sl ds)) (del σ o)))
 | _, _ => False
def cnvW (P : Program) (dr : Bool) (σ : Heap) (s d : TypeId) (x : V) (K : V → Heap → Prop) : Prop :=
 match !dr && s == d, x with
 | true, .msl o k off len => frzK P s σ (.msl o k off len) K
 | _, _ => cnvK P dr σ s d x (Later (Hold fun v => K v σ))
def wv [Glb] (P : Program) (dr : Bool) (N : Nat) (op : Op) (G : Nat → V) (σ : Heap) (id : Nat) (K : V → Heap → Prop) : Prop :=
 match op with
 | .store t x y => storeK (szOf P t) (evO G x) (evO G y) σ K
 | .alloc t => allocK (zOf P t) σ id K
 | .box _ x => boxK (evO G x) σ id K
 | .buildSlice t len parts => bsK (elT P t) dr (inOrder 0 parts.toList) len (parts.toList.map fun p => evO G p.2) σ id K
 | .makeSlice t x y => mkK (elT P t) σ id (evO G x) (evO G y) K
 | .makeMap _ r => mmkK r σ id K
 | .mapUpdate t m k x => mupK (mapT P t) σ (evO G m) (evO G k) (evO G x) K
 | .insert t m k x => mupK (mapT P t) σ (evO G m) (evO G k) (evO G x) K
 | .call { callee := .builtin .append, args, argTypes } => match args.toList, argTypes.toList with
  | [x, y], [t, t2] => appK (elT P t) (seqT P t2) σ id (evO G x) (evO G y) K
  | _, _ => False
 | .call { callee := .builtin .copy, args, argTypes } => match args.toList, argTypes.toList with
  | [x, y], [t, _] => copyK (elT P t) σ (evO G x) (evO G y) K
  | _, _ => False
 | .convert s d x => cnvW P dr σ s d (evO G x) K
 | .call { callee := .value f, args, .. } => if dr then pcallK P σ (evO G f) (args.toList.map (evO G)) (Later (Hold fun v => K v σ)) else callK P (evO G f) (args.toList.map (evO G)) σ N id K
 | op => pv P op G σ (Later (Hold fun v => K v σ))
section
variable {P : Program} {G : Nat → V} {σ σ' : Heap} {ρ ρ' : Nat → Option Nat} {I I' : Nat → Prop} {w w' : World} {a : Act}
theorem optK_some {α : Type} {o : Option α} {K : α → Prop} (h : optK o K) : ∃ x, o = some x ∧ K x := by
 unfold optK at h; split at h
 ·exact ⟨_, rfl, h⟩
 ·exact h.elim
theorem valK_some {o : Option Value} {K : V → Prop} (h : valK o K) : ∃ c, o = some c ∧ K (.d (.val c)) := by
 unfold valK at h; split at h
 ·exact ⟨_, rfl, h⟩
 ·exact h.elim
theorem fdOf_some {s f : Nat} {off : Nat} {ft : TypeId} (h : fdOf P s f = some (off, ft)) : ∃ n, fldOf P s f = some (off, ft) ∧ szOf P ft = some n ∧ n ≠ 0 := by
 unfold fdOf at h; split at h
 ·next h1 =>
   split at h
   ·next h2 => simp only [Option.some.injEq, Prod.mk.injEq] at h; obtain ⟨rfl, rfl⟩ := h; exact ⟨_, h1, h2, by omega⟩
   ·cases h
 ·cases h
theorem ptOf_some {s f : Nat} {off n : Nat} {g : Bool} (h : ptOf P s f = some (off, n, g)) : ∃ ft, fldOf P s f = some (off, ft) ∧ szOf P ft = some n ∧ aggOf P ft = some g := by
 unfold ptOf at h; split at h
 ·next h1 =>
   split at h
   ·next h2 h3 => simp only [Option.some.injEq, Prod.mk.injEq] at h; obtain ⟨rfl, rfl, rfl⟩ := h; exact ⟨_, h1, h2, h3⟩
   ·cases h
 ·cases h
theorem esOf_some {t s : Nat} (h : esOf P t = some s) : ∃ e, elOf P t = some e ∧ szOf P e = some s := by
 unfold esOf at h
 cases he : elOf P t with
 | none => simp [he] at h
 | some e => simp only [he, Option.bind_some] at h; exact ⟨e, rfl, h⟩
theorem pv_sound [Glb] {op : Op} {K : V → Prop} (h : pv P op G σ K) : ∃ v, OpP P op G σ v ∧ (slotOnly op = true → ∀ σ', OpP P op G σ' v) ∧ K v := by
 unfold pv at h
 split at h
 case h_1 x => exact ⟨_, .move x, fun _ _ => .move x, h⟩
 case h_2 x => exact ⟨_, .assign x, fun _ _ => .assign x, h⟩
 case h_3 c x y =>
  unfold pickK at h; split at h
  ·next t ht =>
   cases t with
   | true => exact ⟨_, .pick ht, fun _ _ => .pick ht, h.1 rfl⟩
   | false => exact ⟨_, .pick ht, fun _ _ => .pick ht, h.2 rfl⟩
  ·exact h.elim
 case h_4 t x =>
  unfold loadK at h; split at h
  ·next g m cs h1 h2 hx => obtain ⟨v, h3, h4⟩ := optK_some h; exact ⟨v, .load_iptr hx h1 h2 h3, (fun h => by cases h), h4⟩
  ·next g m o k i j h1 h2 hx => obtain ⟨ow, h3, h4, h⟩ := optK_some h; obtain ⟨row, h5, h⟩ := optK_some h; obtain ⟨v, h6, h7⟩ := optK_some h; exact ⟨v, .load_ptr hx h3 h4 h5 h1 h2 h6, (fun h => by cases h), h7⟩
  ·exact h.elim
 case h_5 s x f =>
  unfold fldK at h; split at h
  ·next off ft cs h1 hx => obtain ⟨n, h1, h2, h3⟩ := fdOf_some h1; exact ⟨_, .fieldAddr_iptr hx h1 h2 h3, fun _ _ => .fieldAddr_iptr hx h1 h2 h3, h⟩
  ·next off ft o k i j h1 hx => obtain ⟨n, h1, h2, h3⟩ := fdOf_some h1; exact ⟨_, .fieldAddr_ptr hx h1 h2 h3, fun _ _ => .fieldAddr_ptr hx h1 h2 h3, h⟩
  ·exact h.elim
 case h_6 s x f =>
  unfold partK at h; split at h
  ·next off n g cs h1 hx => obtain ⟨ft, h1, h2, h3⟩ := ptOf_some h1; obtain ⟨v, h4, h5⟩ := optK_some h; exact ⟨_, .field hx h1 h2 h3 h4, fun _ _ => .field hx h1 h2 h3 h4, h5⟩
  ·exact h.elim
 case h_7 t x ix =>
  unfold idxK at h; split at h
  ·next s xs k n h1 hx hi => obtain ⟨e, h1, h2⟩ := esOf_some h1; obtain ⟨h0, h⟩ := h; obtain ⟨row, h3, h4, h5⟩ := optK_some h; exact ⟨_, .indexAddr_sl hx hi h0 h3 h1 h2 h4, fun _ _ => .indexAddr_sl hx hi h0 h3 h1 h2 h4, h5⟩
  ·next s o k off len ki n h1 hx hi => obtain ⟨e, h1, h2⟩ := esOf_some h1; obtain ⟨h0, h3, rfl, h5⟩ := h; exact ⟨_, .indexAddr_msl hx hi h0 h3 h1 h2, fun _ _ => .indexAddr_msl hx hi h0 h3 h1 h2, h5⟩
  ·exact h.elim
 case h_8 op t x y _ =>
  obtain ⟨r, h1, h2⟩ := valK_some h
  unfold bopV at h1; split at h1
  ·next c d hx hy => exact ⟨_, .binOp hx hy h1, fun _ _ => .binOp hx hy h1, h2⟩
  ·next r0 rs hx hy =>
   split at h1
   ·next ht =>
    split at h1
    ·obtain rfl := Option.some.inj h1
     exact ⟨_, .neNil hx (by simp) hy ht (.inl ⟨rfl, rfl⟩), fun _ _ => .neNil hx (by simp) hy ht (.inl ⟨rfl, rfl⟩), h2⟩
    ·obtain rfl := Option.some.inj h1
     exact ⟨_, .neNil hx (by simp) hy ht (.inr ⟨rfl, rfl⟩), fun _ _ => .neNil hx (by simp) hy ht (.inr ⟨rfl, rfl⟩), h2⟩
    ·cases h1
   ·cases h1
  ·cases h1
 case h_9 op t x =>
  obtain ⟨r, h1, h2⟩ := valK_some h
  unfold uopV at h1; split at h1
  ·next c hx => exact ⟨_, .unOp hx h1, fun _ _ => .unOp hx h1, h2⟩
  ·cases h1
 case h_10 s d x =>
  obtain ⟨r, h1, h2⟩ := valK_some h
  unfold cvV at h1; split at h1
  ·next c hx => exact ⟨_, .convert hx h1, fun _ _ => .convert hx h1, h2⟩
  ·cases h1
 case h_11 x n =>
  unfold extK at h; split at h
  ·next cs hx => obtain ⟨v, h1, h2⟩ := optK_some h; exact ⟨_, .extract hx h1, fun _ _ => .extract hx h1, h2⟩
  ·exact h.elim
 case h_12 fn first caps =>
  unfold fnK at h; split at h
  ·obtain ⟨rfl, h2⟩ := h; exact ⟨_, .makeFunc, fun _ _ => .makeFunc, h2⟩
  ·exact h.elim
 case h_13 t x ix =>
  unfold strK at h; split at h
  ·next s k n hx hi => obtain ⟨h1, h⟩ := h; obtain ⟨b, h2, h3⟩ := optK_some h; exact ⟨_, .index_str hx hi h1 h2, fun _ _ => .index_str hx hi h1 h2, h3⟩
  ·exact h.elim
 case h_14 t parts =>
  unfold bldK at h; split at h
  ·next z hz => obtain ⟨h1, h2, h⟩ := h; obtain ⟨cs, h3, h4⟩ := optK_some h; exact ⟨_, .build h1 hz h2 h3, fun _ _ => .build h1 hz h2 h3, h4⟩
  ·exact h.elim
 case h_15 t x lo hi =>
  unfold cutK at h; split at h
  ·next s l h' hx hl hh' => obtain ⟨h1, h⟩ := h; obtain ⟨r, h3, h4⟩ := optK_some h; exact ⟨_, .slice_str hx h1 hl hh' h3, fun _ _ => .slice_str hx h1 hl hh' h3, h4⟩
  ·next xs l h' hx hl hh' =>
   unfold sliceK at h; split at h
   ·next s hs =>
    obtain ⟨e, k1, k2⟩ := esOf_some hs
    obtain ⟨h1, h⟩ := h
    obtain ⟨r, h3, h4⟩ := optK_some h
    exact ⟨_, .slice_sl hx k1 k2 h1 hl hh' h3, fun _ _ => .slice_sl hx k1 k2 h1 hl hh' h3, h4⟩
   ·exact h.elim
  ·next o k off len h' hx hl hh' =>
   obtain ⟨h1, h2, h3, h4⟩ := h
   obtain ⟨e, k1, k2⟩ := esOf_some h1
   exact ⟨_, .slice_msl hx k1 k2 hl hh' h2 h3, fun _ _ => .slice_msl hx k1 k2 hl hh' h2 h3, h4⟩
  ·next o k off len l h' hx hl hh' =>
   obtain ⟨h1, h2, h3, h4, h5⟩ := h
   obtain ⟨e, k1, k2⟩ := esOf_some h1
   exact ⟨_, .slice_mslL hx k1 k2 hl hh' h2 h3 h4, fun _ _ => .slice_mslL hx k1 k2 hl hh' h2 h3 h4, h5⟩
  ·exact h.elim
 case h_16 x => exact ⟨_, .nilCheck h.1, fun _ _ => .nilCheck h.1, h.2⟩
 case h_17 t x ix ok =>
  unfold lookK at h; split at h
  ·next z o s h1 h2 h3 =>
   obtain ⟨ow, h4, hok, h5⟩ := optK_some h
   exact ⟨_, .lookup (s := .str _) h2 h3 h4 hok (mapT_key h1), (fun h => by cases h), h5⟩
  ·exact h.elim
 case h_18 b args ts =>
  unfold bltK at h; split at h
  ·next x t ha ht =>
   obtain ⟨h1, h⟩ := h
   obtain ⟨n, h2, h3⟩ := optK_some h
   obtain rfl : args = #[x] := by rw [← Array.toArray_toList (xs := args), ha]
   obtain rfl : ts = #[t] := by rw [← Array.toArray_toList (xs := ts), ht]
   exact ⟨_, .len h1 h2, fun _ _ => .len h1 h2, h3⟩
  ·next x y ha =>
   obtain rfl : args = #[x, y] := by rw [← Array.toArray_toList (xs := args), ha]
   obtain ⟨r, h1, h2⟩ := valK_some h
   unfold mmV at h1; split at h1
   ·next k m k' n hx hy => simp only [Bool.false_eq_true, if_false, Option.some.injEq] at h1; subst h1; exact ⟨_, .min2 hx hy, fun _ _ => .min2 hx hy, h2⟩
   ·cases h1
  ·next x y ha =>
   obtain rfl : args = #[x, y] := by rw [← Array.toArray_toList (xs := args), ha]
   obtain ⟨r, h1, h2⟩ := valK_some h
   unfold mmV at h1; split at h1
   ·next k m k' n hx hy => simp only [if_true, Option.some.injEq] at h1; subst h1; exact ⟨_, .max2 hx hy, fun _ _ => .max2 hx hy, h2⟩
   ·cases h1
  ·exact h.elim
 case h_19 f args ts =>
  unfold pcallK at h; split at h
  ·next id caps hx => obtain ⟨v, args', h1, h2, h3⟩ := h; exact ⟨v, .call hx h1 h2, (fun h => by cases h), h3⟩
  ·exact h.elim
 case h_20 => exact h.elim
theorem b2sT_some {s d : TypeId} (h : b2sT P s d = true) : ∃ e, P.underlying s = some (.slice e) ∧ P.underlying e = some (.int .u8) ∧ P.underlying d = some .string := by
 unfold b2sT at h
 split at h
 ·next e h1 h2 =>
   split at h
   ·next h3 => exact ⟨e, h1, h3, h2⟩
   ·cases h
 ·cases h
theorem asDs_dat : ∀ {r : List D}, asDs (r.map .d) = some r
 | [] => rfl
 | x :: r => by simp only [List.map_cons, asDs]; rw [asDs_dat]; rfl
theorem asRows_dat : ∀ {rs : List (List D)}, asRows (rs.map (·.map .d)) = some rs
 | [] => rfl
 | r :: rs => by simp only [List.map_cons, asRows]; rw [asDs_dat, asRows_dat]
theorem asRows_seal {σ : Heap} {b k off len : Nat} {ob : Own} {ds : List (List D)} (ho : σ b = some ob) (hk : ob.k = k) (hl : off + len ≤ ob.rows.length) (hd : asRows ((ob.rows.drop off).take len) = some ds) : SealD σ (.msl b k off len) (.sl ds) := by
 have hs := asRows_spec hd
 have hlen : ds.length = len := by have := congrArg List.length hs; simp at this; omega
 subst hlen
 have hrow : ∀ i (hi : i < ds.length), ob.rows.getD (off + i) [] = ds[i].map .d := fun i hi => by
  have : ((ob.rows.drop off).take ds.length)[i]? = some (ds[i].map .d) := by rw [hs]; simp [hi]
  rw [List.getElem?_take, if_pos hi, List.getElem?_drop] at this
  rw [List.getD_eq_getElem?_getD, this]; rfl
 refine .msl ho hk hl (fun i hi => by rw [hrow i hi]; simp) (fun i j hi hj => ?_)
 rw [hrow i hi]
 have : (ds[i].map V.d).getD j .any = .d ds[i][j] := by simp [List.getD_eq_getElem?_getD, hj]
 rw [this]; exact .d _
theorem RepD.cells {I I' : Nat → Prop} {w w' : World} (hI : ∀ b, I b → I' b) (hw : ∀ b o, cellAt w' b o = cellAt w b o) {x : D} {c : Value} (h : RepD I w x c) : RepD I' w' x c := by
 induction h with
 | val c h => exact .val c h
 | nil a cap => exact .nil a cap
 | sl b off cap k xs f hb hc hm hk hf _ ih => exact .sl b off cap k xs f (hI _ hb) hc hm hk (fun i j hi hj => (hw _ _).trans (hf i j hi hj)) fun i j hi hj => ih i j hi hj
theorem OpW.freeze [Glb] {N id : Nat} {t e : TypeId} {x : Operand} {o off len : Nat} {ow : Own} {ds : List (List D)} (hx : evO G x = .msl o 1 off len) (hob : σ o = some ow) (hk : ow.k = 1) (hl : off + len ≤ ow.rows.length)
  (hd : asRows ((ow.rows.drop off).take len) = some ds) (ht : elOf P t = some e) (he : P.underlying e = some (.int .u8)) : OpW P (.convert t t x) G σ N id (.d (.sl ds)) (del σ o) := by
 intro o' ho ρ I a w hh hN hid hg K Q hK
 have hv := evO_rep hg (x := x) (by simp [Op.operands])
 obtain ⟨b, cap, cs, el, hb, hblk, hcs, hcap, hmx, hxe⟩ := hv.toMsl hx
 obtain ⟨c, e', hblk', hnI, hA⟩ := hh.arr hob hb ⟨_, _, hblk⟩
 have hlt := hblk.lt
 let w' : World := w.freeze ⟨b, c.size, none⟩ 1
 have hw' : w'.heap[b]? = some (.cells c e' (c.size, c.size + 1)) := by
  have h2 : w.heap[b]? = some (Go.Obj.cells c e' (0, 0)) := hblk'
  show (World.freeze w ⟨b, c.size, none⟩ 1).heap[b]? = _
  unfold World.freeze
  rw [if_neg (by decide)]
  show (w.heap.modify b _)[b]? = _
  rw [Array.getElem?_modify, if_pos rfl, h2]; rfl
 have hne : ∀ b', b' ≠ b → w'.heap[b']? = w.heap[b']? := fun b' h => by
  simp [w', World.freeze, Array.getElem?_modify, Ne.symm h]
 have hsz : w'.heap.size = w.heap.size := by simp [w', World.freeze]
 have hcell : ∀ b' j, cellAt w' b' j = cellAt w b' j := fun b' j => by
  by_cases h : b' = b
  ·subst h
   have h2 : w.heap[b']? = some (Go.Obj.cells c e' (0, 0)) := hblk'
   simp only [cellAt, World.cell?, hw', h2]
  ·simp only [cellAt, World.cell?, hne b' h]
 have hkind : ∀ b', KindB w w' b' := fun b' => by
  by_cases h : b' = b
  ·subst h
   refine ⟨fun c0 e0 h => ?_, fun ⟨es, cl, h⟩ => ?_⟩
   ·obtain ⟨h1, h2⟩ := h.eq hblk'
    subst h1 h2
    exact ⟨c0, ⟨_, hw'⟩, rfl⟩
   ·have h2 : w.heap[b']? = some (Go.Obj.cells c e' (0, 0)) := hblk'
    unfold MapAt at h; rw [h2] at h; cases h
  ·exact .of_eq (hne b' h)
 have hIb : ∀ q, I q → w'.heap[q]? = w.heap[q]? := fun q hq => hne q fun h => hnI (h ▸ hq)
 have hrun : (execOp a.eval o').run P w = .ok (.value (a.eval x)) w' := by
  have h2 : w.heap[b]? = some (Go.Obj.cells c e' (0, 0)) := hblk'
  have hs : w.shape? b = some (e', c.size) := by simp [World.shape?, h2]
  simp [execOp, ho, hxe, Go.convert, run_underlying (run_elOf ht), run_underlying he, markStringish, hs]
  rfl
 show o'.upon P a K Q ((execOp a.eval o').run P w)
 rw [hrun]
 have hsig : ∀ m y, del σ o m = some y → m ≠ o ∧ σ m = some y := fun m y h => by
  unfold del at h
  split at h
  ·cases h
  ·next hm => exact ⟨hm, h⟩
 have hown : ∀ q, Owns (del σ o) ρ q → Owns σ ρ q := fun q ⟨m, y, h1, h2⟩ => ⟨m, y, (hsig m y h1).2, h2⟩
 have rep1 : ∀ {v : V} {c : Value}, RepV ρ I w v c → RepV ρ (fun q => I q ∨ q = b) w' v c := fun h =>
  (h.mono (fun _ _ h => h) (fun _ h => h) hIb hkind).mono (w' := w') (fun _ _ h => h) (fun _ h => .inl h) (fun _ _ => rfl) (fun _ => .of_eq rfl)
 have hheap : HeapOk (del σ o) ρ (fun q => I q ∨ q = b) w' := by
  refine ⟨fun m y hm => ?_, fun m m' y y' q h1 h2 h3 h4 => hh.inj m m' y y' q (hsig m y h1).2 (hsig m' y' h2).2 h3 h4, ⟨fun q hq => ?_, hh.base.known.keep (fun _ h => .inl h) hIb⟩⟩
  ·obtain ⟨hmo, hm⟩ := hsig m y hm
   obtain ⟨q, cq, eq, k1, k2, k3, k4, k5⟩ := hh.own m y hm
   have hqb : q ≠ b := fun h => hmo (hh.inj m o y ow b hm hob (h ▸ k1) hb)
   exact ⟨q, cq, eq, k1, k2.of_eq (hne q hqb), k3, fun h => h.elim k4 hqb, fun i hi => ⟨(k5 i hi).1, fun j hj => rep1 ((k5 i hi).2 j hj)⟩⟩
  ·rcases hq with hq | rfl
   ·rw [hsz]; exact hh.base.lt q hq
   ·rw [hsz]; exact hlt
 refine hK _ ρ (fun q => I q ∨ q = b) w' ⟨⟨rfl, rfl, rfl, by rw [hsz]; exact Nat.le_refl _, fun q h1 h2 => hne q fun h => h2 (h ▸ ⟨o, ow, hob, hb⟩), hkind, fun q hq => .inl (hown q hq), fun _ h => .inl h, fun q hq => ?_⟩, fun _ _ h => h⟩ hheap (fun _ _ => rfl) ?_
 ·rcases hq with hq | rfl
  ·exact .inl hq
  ·exact .inr (.inl ⟨o, ow, hob, hb⟩)
 ·have hseal := (asRows_seal hob hk hl hd)
  have hone : HeapOk (upd Heap.none o (some ow)) ρ I w := hh.forget fun q y hq => by
   by_cases hqo : q = o
   ·subst hqo; rw [upd_same] at hq; cases hq; exact hob
   ·rw [upd_ne _ _ hqo] at hq; cases hq
  have hseal : SealD (upd Heap.none o (some ow)) (.msl o 1 off len) (.sl ds) := asRows_seal (upd_same ..) hk hl hd
  have hrep := hseal.rep hone (hx ▸ hv)
  refine .d (hrep.cells (fun q hq => ?_) hcell)
  rcases hq with hq | ⟨m, y, h1, h2⟩
  ·exact .inl hq
  ·by_cases hm : m = o
   ·subst hm; rw [hb] at h2; cases h2; exact .inr rfl
   ·rw [upd_ne _ _ hm] at h1; cases h1
theorem OpP.bytes [Glb] {s d : TypeId} {x : Operand} {zs : List Int} (ht : b2sT P s d = true) (h : SealD σ (evO G x) (.sl (zs.map fun z => [.val (.int .u8 z)]))) :
  OpP P (.convert s d x) G σ (.d (.val (.string (strOfNums zs)))) :=
 .of_run fun o ho ρ I a w hh hg => by
  obtain ⟨e, h1, h2, h3⟩ := b2sT_some ht
  have hr := h.rep hh (evO_rep hg (x := x) (by simp [Op.operands]))
  generalize hX : (D.sl (zs.map fun z => [D.val (.int .u8 z)])) = X at hr
  generalize hc : a.eval x = c at hr
  refine ⟨_, ?_, .d (.val _ ?_)⟩
  ·show (execOp a.eval o).run P w = .ok (.value (.string (strOfNums zs))) w
   simp only [execOp, ho, hc]
   cases hr with
   | val _ _ => cases hX
   | nil ad cap =>
    have : zs = [] := by cases zs with | nil => rfl | cons z zs => cases hX
    subst this
    have e0 : (Go.convert s d (.slice ad 0 cap)).run P w = .ok (.string (strOfNums [])) w := by
     cases ad with
     | none => rw [run_convert_bytes_nil w s e h1 h2 0 cap d h3]; rfl
     | some ad =>
      rw [run_convert_bytes_string w s d e _ 0 cap h1 h2 h3, run_bytesToString w ad 0 cap [] (by simp [loadCells, loadCellsFrom])]; rfl
    simp only [Sem.run_bind, e0, Result.andThen_ok, Sem.run_pure]
   | sl b off cap k xs f hI hcp hm hk hf hrr =>
    cases hX
    have e0 := run_convert_bytes_arg w s e h1 h2 b off (zs.map fun z => [D.val (.int .u8 z)]).length cap zs (by simp) (fun i hi => by
     have hi' : i < zs.length := by simpa using hi
     have hk1 : k = 1 := by
      have := hk ((zs.map fun z => [D.val (.int .u8 z)])[i]) (List.getElem_mem _)
      simpa using this.symm
     subst hk1
     have q1 := hf i 0 hi (by simp)
     have q2 := hrr i 0 hi (by simp)
     simp only [Nat.mul_one, Nat.add_zero] at q1
     have q3 : f i 0 = .int .u8 (zs.getD i 0) := by
      have e9 : (zs.map fun z => [D.val (.int .u8 z)])[i][0]'(by simp) = D.val (.int .u8 zs[i]) := by simp
      rw [e9] at q2
      generalize f i 0 = v at q2 ⊢
      cases q2
      simp [List.getD, List.getElem?_eq_getElem hi']
     rw [← q3]; exact q1) d h3
    simp only [Sem.run_bind, e0, Result.andThen_ok, Sem.run_pure]
  ·show decide ((strOfNums zs).size ≤ 9223372036854775807) = true
   rw [strOfNums_size]
   cases hr with
   | val _ _ => cases hX
   | nil ad cap =>
    have : zs = [] := by cases zs with | nil => rfl | cons z zs => cases hX
    subst this; rfl
   | sl b off cap k xs f hI hcp hm hk hf hrr =>
    cases hX
    exact decide_eq_true (by simp at hcp; omega)
theorem wv_sound [Glb] {dr : Bool} {N : Nat} {op : Op} {id : Nat} {K : V → Heap → Prop} (h : wv P dr N op G σ id K) :
  ∃ v σ', OpW P op G σ N id v σ' ∧ (dr = true → isW op = false → σ' = σ ∧ OpP P op G σ v ∧ (slotOnly op = true → ∀ σ2, OpP P op G σ2 v)) ∧ K v σ' := by
 have hp : ∀ {op : Op}, pv P op G σ (fun v => K v σ) → ∃ v σ', OpW P op G σ N id v σ' ∧ (dr = true → isW op = false → σ' = σ ∧ OpP P op G σ v ∧ (slotOnly op = true → ∀ σ2, OpP P op G σ2 v)) ∧ K v σ' := by
  intro op h
  obtain ⟨v, h1, h2, h3⟩ := pv_sound h
  exact ⟨v, σ, h1.opW N id, fun _ _ => ⟨rfl, h1, h2⟩, h3⟩
 unfold wv at h
 split at h
 case h_1 t x y =>
  unfold storeK at h; split at h
  ·next n o k i j h1 hx =>
   obtain ⟨ow, h2, h3, h⟩ := optK_some h
   obtain ⟨row, h4, h5, h6, h7, h8, h9⟩ := optK_some h
   exact ⟨_, _, .store hx h2 h3 h4 h1 h5 h6 h7 h8, (fun _ h => by cases h), h9⟩
  ·exact h.elim
 case h_2 t =>
  unfold allocK at h; split at h
  ·next z h1 => exact ⟨_, _, .alloc h1 h.1, (fun _ h => by cases h), h.2⟩
  ·exact h.elim
 case h_3 t x => exact ⟨_, _, .box h.1, (fun _ h => by cases h), h.2⟩
 case h_4 t len parts =>
  unfold bsK at h; split at h
  ·next n byt zr hel =>
   obtain ⟨e, z, k1, k2, k3, k4, k5, k6, k7, k8, rfl⟩ := elT_some hel
   obtain ⟨h1, h2, h3, h4, h⟩ := h
   have hrows : ∀ p ∈ parts.toList, rowOk (evO G p.2) = true ∧ (toRow (evO G p.2)).length = n := fun p hp => h4 _ (List.mem_map_of_mem (f := fun p => evO G p.2) hp)
   have hmap : (parts.toList.map fun p => evO G p.2).map toRow = sliceRows G parts.toList := by simp [sliceRows]
   rw [hmap] at h
   split at h
   ·next ds hds hd => exact ⟨_, σ, (OpP.buildSlice k1 k2 k5 k4 k7 k8 h1 (by simpa using h2) h3 hrows hds).opW N id, fun _ _ => ⟨rfl, .buildSlice k1 k2 k5 k4 k7 k8 h1 (by simpa using h2) h3 hrows hds, fun hs => by cases hs⟩, h⟩
   ·obtain ⟨rfl, h⟩ := h
    exact ⟨_, _, .buildSlice k1 k2 k5 k4 k7 k8 h1 (by simpa using h2) h3 hrows, (fun h => by cases h), h⟩
  ·exact h.elim
 case h_5 t x y =>
  unfold mkK at h; split at h
  ·next n byt zr l c hel hx hy =>
   obtain ⟨e, z, k1, k2, k3, k4, k5, k6, k7, k8, rfl⟩ := elT_some hel
   obtain ⟨h1, h2, h3, z', hs, h4⟩ := h
   obtain ⟨l, rfl⟩ : ∃ m : Nat, l = m := ⟨l.toNat, by omega⟩
   obtain ⟨c, rfl⟩ : ∃ m : Nat, c = m := ⟨c.toNat, by omega⟩
   exact ⟨_, _, (OpW.makeSlice hx hy (by omega) k1 k2 k5 k3 k6 k4 k7 k8 (by simpa using h3)).rows hs ⟨_, rfl⟩, (fun _ h => by cases h), h4⟩
  ·exact h.elim
 case h_6 t r =>
  unfold mmkK at h; split at h
  ·exact ⟨_, _, .makeMap, (fun _ h => by cases h), h⟩
  ·exact h.elim
 case h_7 t m k x =>
  unfold mupK at h; split at h
  ·next z o s y h1 h2 h3 h4 =>
   obtain ⟨ow, h5, hok, h6⟩ := optK_some h
   exact ⟨_, _, .mapUpdate (s := .str _) h2 h3 h4 h5 hok (mapT_key h1), (fun _ h => by cases h), h6⟩
  ·exact h.elim
 case h_8 t m k x =>
  unfold mupK at h; split at h
  ·next z o s y h1 h2 h3 h4 =>
   obtain ⟨ow, h5, hok, h6⟩ := optK_some h
   exact ⟨_, _, .insert (s := .str _) h2 h3 h4 h5 hok (mapT_key h1), (fun _ h => by cases h), h6⟩
  ·exact h.elim
 case h_9 args ts =>
  split at h
  ·next x y t t2 ha ht =>
   obtain rfl : args = #[x, y] := by rw [← Array.toArray_toList (xs := args), ha]
   obtain rfl : ts = #[t, t2] := by rw [← Array.toArray_toList (xs := ts), ht]
   obtain ⟨n, byt, zr, y', hel, hsq, hy, h⟩ := h
   obtain ⟨e, z, k1, k2, k3, k4, k5, k6, k7, k8, rfl⟩ := elT_some hel
   rcases h with ⟨o, len, ow, src, h1, h2, h3, h4, h5, h6, h7, h8, h9⟩ | ⟨od, src, h1, h2, h3, h4, h5, h6⟩ | ⟨ys, h1, h2, h3, h4, h5⟩
   ·exact ⟨_, _, OpW.append h1 h2 h3 h4 k1 k2 k5 k3 k6 k4 k7 k8 hsq hy h5 h6 h7 h8, (fun _ h => by cases h), h9⟩
   ·refine ⟨_, _, (OpW.append_nil h1 k1 k2 k5 k3 k6 k4 k7 k8 hsq hy h2 h3 h4 h5).forget fun m z hm => ?_, (fun _ h => by cases h), h6⟩
    by_cases hmi : m = id
    ·rw [hmi, upd_same] at hm ⊢; exact hm
    ·rw [upd_ne _ _ hmi] at hm ⊢
     unfold del at hm; split at hm
     ·cases hm
     ·exact hm
   ·exact ⟨_, σ, (OpP.append_nil h1 k1 k2 k5 k3 k6 k4 k7 k8 hsq hy h2 h3 h4).opW N id, (fun _ h => by cases h), h5⟩
  ·exact h.elim
 case h_10 args ts =>
  split at h
  ·next x y t t2 ha ht =>
   obtain rfl : args = #[x, y] := by rw [← Array.toArray_toList (xs := args), ha]
   obtain rfl : ts = #[t, t2] := by rw [← Array.toArray_toList (xs := ts), ht]
   rcases h with ⟨n, byt, zr, o, len, ow, src, hel, h1, h2, h3, h4, h5, h6, h7, h8, h9⟩ | ⟨n, byt, zr, o, off, len, o2, off2, len2, ow, ow2, hel, h1, h2, h3, h4, h5, h6, h7, h8, h9, h10⟩ | ⟨n, byt, zr, lx, ly, hel, h1, h2, h3, h4⟩
   all_goals obtain ⟨e, z, k1, k2, k3, k4, k5, k6, k7, k8, rfl⟩ := elT_some hel
   ·exact ⟨_, _, OpW.copy h1 h2 h3 h4 k1 k2 k5 h5 h6 h7 h8, (fun _ h => by cases h), h9⟩
   ·exact ⟨_, _, OpW.copyAt h1 h2 h3 h4 h5 h6 h7 h8 k1 k2 k5 h9, (fun _ h => by cases h), h10⟩
   ·exact ⟨_, _, OpW.copy0 h1 h2 h3 k1 k2, (fun _ h => by cases h), h4⟩
  ·exact h.elim
 case h_11 s d x =>
  replace h : cnvW P dr σ s d (evO G x) K := h
  unfold cnvW at h
  split at h
  ·next o k off len hsd hx =>
   rw [Bool.and_eq_true, Bool.not_eq_true'] at hsd
   obtain ⟨hd, hsd⟩ := hsd
   obtain rfl := eq_of_beq hsd
   unfold frzK at h
   split at h
   ·next e o' k' len' hel hx' =>
    cases hx'
    obtain ⟨hu, rfl, h⟩ := h
    obtain ⟨ow, h1, h⟩ := optK_some h
    rw [Later_apply] at h
    obtain ⟨h2, h3, ds, h4, h5⟩ := h
    exact ⟨_, _, OpW.freeze hx h1 h2 (by omega) (by rw [List.drop_zero, List.take_of_length_le (by omega), h4]; exact asRows_dat) hel hu, (fun h => by rw [hd] at h; cases h), h5⟩
   ·exact h.elim
  rcases h with h | ⟨hd, ht, zs, h1, h2⟩
  ·exact hp (op := .convert s d x) (by simpa [pv, Later] using h)
  ·exact ⟨_, σ, (OpP.bytes ht h1).opW N id, (fun h => by rw [hd] at h; cases h), h2⟩
 case h_12 f args ts =>
  cases dr with
  | true => exact hp (op := .call { callee := .value f, args := args, argTypes := ts }) (by simpa [pv, Later] using h)
  | false =>
   simp only [Bool.false_eq_true, if_false] at h
   unfold callK at h; split at h
   ·next g caps hx =>
    obtain ⟨v, σ', h1 | h1, h2⟩ := h
    ·obtain ⟨args', h1, h3, rfl⟩ := h1; exact ⟨v, _, (OpP.call hx h1 h3).opW N id, (fun h => by cases h), h2⟩
    ·exact ⟨v, σ', .call hx h1, (fun h => by cases h), h2⟩
   ·exact h.elim
 case h_13 => exact hp h
end
end Go.Iso
