/- The abstract layer, part A: values without addresses, what they stand for in a machine's world, and steps that keep what they stand for. -/
import Derived.Calls
import Derived.Orders
import Derived.Below
import Derived.KernelRfl
import Derived.Laws.Cells
namespace Go.Iso
open Go Go.RowKit
inductive D where
  | val (c : Value)
  | sl (xs : List (List D))
inductive V where
  | any
  | d (x : D)
  | agg (cs : List V)
  | tup (vs : List V)
  | ptr (o k i j : Nat)
  | iptr (cs : List D)
  | msl (o k off len : Nat)
  | fn (f : FuncId) (caps : List V)
structure Own where
  k : Nat
  rows : List (List V)
abbrev Heap := Nat → Option Own
def Heap.none : Heap := fun _ => Option.none
def upd {α : Type} (f : Nat → α) (n : Nat) (x : α) : Nat → α := fun m => if m = n then x else f m
theorem upd_same {α : Type} (f : Nat → α) (n : Nat) (x : α) : upd f n x n = x := if_pos rfl
theorem upd_ne {α : Type} (f : Nat → α) {n m : Nat} (x : α) (h : m ≠ n) : upd f n x m = f m := if_neg h
abbrev Blk (w : World) (b : Nat) (c : Array Value) (e : TypeId) : Prop := w.heap[b]? = some (Go.Obj.cells c e (0, 0))
abbrev cellAt (w : World) (b o : Nat) : Option Value := w.cell? ⟨b, o, none⟩
def okVal : Value → Bool
  | .string s => decide (s.size ≤ 9223372036854775807)
  | c => c.oneCell'
theorem okVal_one {c : Value} (h : okVal c = true) : c.oneCell' = true := by
  cases c <;> first | rfl | exact h
inductive RepD (I : Nat → Prop) (w : World) : D → Value → Prop
  | val (c : Value) (h : okVal c = true) : RepD I w (.val c) c
  | nil (a : Option Addr) (cap : Nat) : RepD I w (.sl []) (.slice a 0 cap)
  | sl (b off cap k : Nat) (xs : List (List D)) (f : Nat → Nat → Value) (hI : I b) (hc : xs.length ≤ cap) (hm : cap ≤ 9223372036854775807) (hk : ∀ row ∈ xs, row.length = k)
      (hf : ∀ i j (hi : i < xs.length), j < xs[i].length → cellAt w b (off + i * k + j) = some (f i j))
      (hr : ∀ i j (hi : i < xs.length) (hj : j < xs[i].length), RepD I w xs[i][j] (f i j)) :
      RepD I w (.sl xs) (.slice (some ⟨b, off, none⟩) xs.length cap)
def Row (I : Nat → Prop) (w : World) (b off : Nat) (cs : List D) : Prop :=
  I b ∧ ∀ j (h : j < cs.length), ∃ c, cellAt w b (off + j) = some c ∧ RepD I w cs[j] c
inductive RepV (ρ : Nat → Option Nat) (I : Nat → Prop) (w : World) : V → Value → Prop
  | any (c : Value) : RepV ρ I w .any c
  | d {x : D} {c : Value} (h : RepD I w x c) : RepV ρ I w (.d x) c
  | agg {cs : List V} {vs : Array Value} (hn : vs.size = cs.length) (h : ∀ i (hi : i < cs.length), RepV ρ I w cs[i] (vs.getD i undef)) : RepV ρ I w (.agg cs) (.agg vs)
  | tup {cs : List V} {vs : Array Value} (hn : vs.size = cs.length) (h : ∀ i (hi : i < cs.length), RepV ρ I w cs[i] (vs.getD i undef)) : RepV ρ I w (.tup cs) (.tuple vs)
  | ptr {o k i j b : Nat} (h : ρ o = some b) : RepV ρ I w (.ptr o k i j) (.pointer (some ⟨b, i * k + j, none⟩))
  | iptr {cs : List D} {b off : Nat} (h : Row I w b off cs) : RepV ρ I w (.iptr cs) (.pointer (some ⟨b, off, none⟩))
  | msl {o k off len b cap : Nat} {c : Array Value} {e : TypeId} (h : ρ o = some b) (hb : Blk w b c e) (hs : (off + cap) * k ≤ c.size) (hl : len ≤ cap) (hm : cap ≤ 9223372036854775807) :
      RepV ρ I w (.msl o k off len) (.slice (some ⟨b, off * k, none⟩) len cap)
  | fn {f : FuncId} {caps : List V} {vs : Array Value} (hn : vs.size = caps.length) (h : ∀ i (hi : i < caps.length), RepV ρ I w caps[i] (vs.getD i undef)) : RepV ρ I w (.fn f caps) (.func (.func f) #[] vs)
class Glb where
  val : Nat → Option (Array Value)
def Known [Glb] [Glb] (I : Nat → Prop) (w : World) : Prop := ∀ g cs, Glb.val g = some cs → I g ∧ ∃ e p, w.heap[g]? = some (.cells cs e p)
structure Base [Glb] [Glb] (I : Nat → Prop) (w : World) : Prop where
  lt : ∀ b, I b → b < w.heap.size
  known : Known I w
structure HeapOk [Glb] (σ : Heap) (ρ : Nat → Option Nat) (I : Nat → Prop) (w : World) : Prop where
  own : ∀ o x, σ o = some x → ∃ b c e, ρ o = some b ∧ Blk w b c e ∧ x.rows.length * x.k ≤ c.size ∧ ¬ I b ∧
    ∀ i (hi : i < x.rows.length), x.rows[i].length = x.k ∧ ∀ j (hj : j < x.rows[i].length), RepV ρ I w x.rows[i][j] (c.getD (i * x.k + j) undef)
  inj : ∀ o o' x x' b, σ o = some x → σ o' = some x' → ρ o = some b → ρ o' = some b → o = o'
  base : Base I w
theorem HeapOk.lt [Glb] {σ : Heap} {ρ : Nat → Option Nat} {I : Nat → Prop} {w : World} (h : HeapOk σ ρ I w) : ∀ b, I b → b < w.heap.size := h.base.lt
theorem Known.keep [Glb] {I I' : Nat → Prop} {w w' : World} (h : Known I w) (hi : ∀ b, I b → I' b) (hk : ∀ b, I b → w'.heap[b]? = w.heap[b]?) : Known I' w' :=
  fun g cs hg => have ⟨h1, e, p, h2⟩ := h g cs hg; ⟨hi _ h1, e, p, (hk _ h1).trans h2⟩
def Owns (σ : Heap) (ρ : Nat → Option Nat) (b : Nat) : Prop := ∃ o x, σ o = some x ∧ ρ o = some b
structure Kept (σ : Heap) (ρ : Nat → Option Nat) (I : Nat → Prop) (w : World) (σ' : Heap) (ρ' : Nat → Option Nat) (I' : Nat → Prop) (w' : World) : Prop where
  os : w'.os = w.os
  tape : w'.tape = w.tape
  output : w'.output = w.output
  size : w.heap.size ≤ w'.heap.size
  kept : ∀ b, b < w.heap.size → ¬ Owns σ ρ b → w'.heap[b]? = w.heap[b]?
  sz : ∀ b (c : Array Value) (e : TypeId), Blk w b c e → ∃ c' : Array Value, Blk w' b c' e ∧ c'.size = c.size
  owned : ∀ b, Owns σ' ρ' b → Owns σ ρ b ∨ w.heap.size ≤ b
  imm : ∀ b, I b → I' b
  immNew : ∀ b, I' b → I b ∨ Owns σ ρ b ∨ w.heap.size ≤ b
structure Step (σ : Heap) (ρ : Nat → Option Nat) (I : Nat → Prop) (w : World) (σ' : Heap) (ρ' : Nat → Option Nat) (I' : Nat → Prop) (w' : World) : Prop extends Kept σ ρ I w σ' ρ' I' w' where
  ids : ∀ o b, ρ o = some b → ρ' o = some b
structure Pure (I : Nat → Prop) (w : World) (I' : Nat → Prop) (w' : World) : Prop where
  below : Below w.heap.size w w'
  imm : ∀ b, I b → I' b
  immNew : ∀ b, I' b → I b ∨ w.heap.size ≤ b
  lt : ∀ b, I' b → b < w'.heap.size
theorem cellAt_heap {w w' : World} {b : Nat} (h : w'.heap[b]? = w.heap[b]?) (o : Nat) : cellAt w' b o = cellAt w b o := by
  simp only [cellAt, World.cell?, h]
mutual
/-- The slices in it are no longer than an int tells. -/
def D.fit : D → Prop
  | .val c => okVal c = true
  | .sl xs => xs.length ≤ 9223372036854775807 ∧ D.fitR xs
def D.fitR : List (List D) → Prop
  | [] => True
  | r :: rs => D.fitL r ∧ D.fitR rs
def D.fitL : List D → Prop
  | [] => True
  | x :: r => D.fit x ∧ D.fitL r
end
theorem D.fitL_of : ∀ {r : List D}, (∀ j (h : j < r.length), D.fit r[j]) → D.fitL r
  | [], _ => by unfold D.fitL; trivial
  | x :: r, h => by unfold D.fitL; exact ⟨h 0 (by simp), D.fitL_of fun j hj => h (j + 1) (by simpa using hj)⟩
theorem D.fitR_of : ∀ {xs : List (List D)}, (∀ i (h : i < xs.length), D.fitL xs[i]) → D.fitR xs
  | [], _ => by unfold D.fitR; trivial
  | x :: r, h => by unfold D.fitR; exact ⟨h 0 (by simp), D.fitR_of fun j hj => h (j + 1) (by simpa using hj)⟩
theorem RepD.fit {I : Nat → Prop} {w : World} {x : D} {c : Value} (h : RepD I w x c) : x.fit := by
  induction h with
  | val c h => unfold D.fit; exact h
  | nil a cap => unfold D.fit D.fitR; simp
  | sl b off cap k xs f hb hc hm hk hf _ ih => unfold D.fit; exact ⟨by omega, D.fitR_of fun i hi => D.fitL_of fun j hj => ih i j hi hj⟩
theorem RepD.mono {I I' : Nat → Prop} {w w' : World} (hI : ∀ b, I b → I' b) (hw : ∀ b, I b → w'.heap[b]? = w.heap[b]?) {x : D} {c : Value} (h : RepD I w x c) : RepD I' w' x c := by
  induction h with
  | val c h => exact .val c h
  | nil a cap => exact .nil a cap
  | sl b off cap k xs f hb hc hm hk hf _ ih => exact .sl b off cap k xs f (hI b hb) hc hm hk (fun i j hi hj => by rw [cellAt_heap (hw b hb)]; exact hf i j hi hj) ih
theorem Row.mono {I I' : Nat → Prop} {w w' : World} (hI : ∀ b, I b → I' b) (hw : ∀ b, I b → w'.heap[b]? = w.heap[b]?) {b off : Nat} {cs : List D} (h : Row I w b off cs) : Row I' w' b off cs :=
  ⟨hI b h.1, fun j hj => let ⟨c, h1, h2⟩ := h.2 j hj; ⟨c, by rw [cellAt_heap (hw b h.1)]; exact h1, h2.mono hI hw⟩⟩
theorem RepV.mono {ρ ρ' : Nat → Option Nat} {I I' : Nat → Prop} {w w' : World} (hρ : ∀ o b, ρ o = some b → ρ' o = some b) (hI : ∀ b, I b → I' b) (hw : ∀ b, I b → w'.heap[b]? = w.heap[b]?)
    (hs : ∀ b (c : Array Value) (e : TypeId), Blk w b c e → ∃ c' : Array Value, Blk w' b c' e ∧ c'.size = c.size)
    {x : V} {c : Value} (h : RepV ρ I w x c) : RepV ρ' I' w' x c := by
  induction h with
  | any c => exact .any c
  | d h => exact .d (h.mono hI hw)
  | agg hn _ ih => exact .agg hn ih
  | tup hn _ ih => exact .tup hn ih
  | ptr h => exact .ptr (hρ _ _ h)
  | iptr h => exact .iptr (h.mono hI hw)
  | msl h hb hs' hl hm => obtain ⟨c', h1, h2⟩ := hs _ _ _ hb; exact .msl (hρ _ _ h) h1 (by rw [h2]; exact hs') hl hm
  | fn hn _ ih => exact .fn hn ih
theorem Blk.lt {w : World} {b : Nat} {c : Array Value} {e : TypeId} (h : Blk w b c e) : b < w.heap.size := by
  rcases Nat.lt_or_ge b w.heap.size with h' | h'
  · exact h'
  · unfold Blk at h; simp [Array.getElem?_eq_none h'] at h
theorem Blk.of_eq {w w' : World} {b : Nat} {c : Array Value} {e : TypeId} (h : Blk w b c e) (hw : w'.heap[b]? = w.heap[b]?) : Blk w' b c e := by
  unfold Blk at *; rw [hw]; exact h
section steps
variable {σ σ' σ'' : Heap} {ρ ρ' ρ'' : Nat → Option Nat} {I I' I'' : Nat → Prop} {w w' w'' : World}
theorem HeapOk.notOwned [Glb] (h : HeapOk σ ρ I w) {b : Nat} (hb : I b) : ¬ Owns σ ρ b := by
  rintro ⟨o, x, ho, hr⟩
  obtain ⟨b', c, e, h1, _, _, h2, _⟩ := h.own o x ho
  rw [hr] at h1; cases h1; exact h2 hb
theorem HeapOk.owns_lt [Glb] (h : HeapOk σ ρ I w) {b : Nat} (hb : Owns σ ρ b) : b < w.heap.size := by
  obtain ⟨o, x, ho, hr⟩ := hb
  obtain ⟨b', c, e, h1, h2, _⟩ := h.own o x ho
  rw [hr] at h1; cases h1
  exact Blk.lt h2
theorem Step.rep [Glb] (hs : Step σ ρ I w σ' ρ' I' w') (h : HeapOk σ ρ I w) {x : V} {c : Value} (hx : RepV ρ I w x c) : RepV ρ' I' w' x c :=
  hx.mono hs.ids hs.imm (fun b hb => hs.kept b (h.lt b hb) (h.notOwned hb)) hs.sz
theorem Kept.refl (σ : Heap) (ρ : Nat → Option Nat) (I : Nat → Prop) (w : World) : Kept σ ρ I w σ ρ I w :=
  ⟨rfl, rfl, rfl, Nat.le_refl _, fun _ _ _ => rfl, fun _ c _ h => ⟨c, h, rfl⟩, fun _ h => .inl h, fun _ h => h, fun _ h => .inl h⟩
theorem Step.refl (σ : Heap) (ρ : Nat → Option Nat) (I : Nat → Prop) (w : World) : Step σ ρ I w σ ρ I w := ⟨Kept.refl σ ρ I w, fun _ _ h => h⟩
theorem Kept.trans (a : Kept σ ρ I w σ' ρ' I' w') (b : Kept σ' ρ' I' w' σ'' ρ'' I'' w'') : Kept σ ρ I w σ'' ρ'' I'' w'' where
  os := b.os.trans a.os
  tape := b.tape.trans a.tape
  output := b.output.trans a.output
  size := Nat.le_trans a.size b.size
  kept := fun k hk hn => by
    rw [b.kept k (Nat.lt_of_lt_of_le hk a.size) (fun ho => (a.owned k ho).elim hn (fun h => by omega)), a.kept k hk hn]
  sz := fun k c e h => by
    obtain ⟨c', h1, h2⟩ := a.sz k c e h
    obtain ⟨c'', h3, h4⟩ := b.sz k c' e h1
    exact ⟨c'', h3, h4.trans h2⟩
  owned := fun k hk => (b.owned k hk).elim (a.owned k) (fun h => .inr (Nat.le_trans a.size h))
  imm := fun k hk => b.imm k (a.imm k hk)
  immNew := fun k hk => by
    rcases b.immNew k hk with h | h | h
    · exact a.immNew k h
    · rcases a.owned k h with h | h
      · exact .inr (.inl h)
      · exact .inr (.inr h)
    · exact .inr (.inr (Nat.le_trans a.size h))
theorem Step.trans (a : Step σ ρ I w σ' ρ' I' w') (b : Step σ' ρ' I' w' σ'' ρ'' I'' w'') : Step σ ρ I w σ'' ρ'' I'' w'' := ⟨a.toKept.trans b.toKept, fun o k h => b.ids o k (a.ids o k h)⟩
theorem Pure.step (p : Pure I w I' w') : Step σ ρ I w σ ρ I' w' where
  os := p.below.os
  tape := p.below.tape
  output := p.below.output
  size := p.below.size
  kept := fun b hb _ => p.below.block b hb
  sz := fun _ c _ h => ⟨c, h.of_eq (p.below.block _ h.lt), rfl⟩
  owned := fun _ h => .inl h
  imm := p.imm
  immNew := fun b h => (p.immNew b h).elim .inl (fun h => .inr (.inr h))
  ids := fun _ _ h => h
theorem Base.pure [Glb] (h : Base I w) (p : Pure I w I' w') : Base I' w' := ⟨p.lt, h.known.keep p.imm fun b hb => p.below.block b (h.lt b hb)⟩
theorem Base.up [Glb] (h : Base I w) (hi : ∀ b, I b → I' b) (lt : ∀ b, I' b → b < w.heap.size) : Base I' w := ⟨lt, h.known.keep hi fun _ _ => rfl⟩
theorem HeapOk.keep [Glb] (h : HeapOk σ ρ I w) (k : Kept σ ρ I w σ' ρ' I' w') (lt : ∀ b, I' b → b < w'.heap.size) : Base I' w' :=
  ⟨lt, h.base.known.keep k.imm fun b hb => k.kept b (h.lt b hb) fun ⟨o, x, h1, h2⟩ => by
    obtain ⟨b', c, e, h3, _, _, h4, _⟩ := h.own o x h1
    rw [h2] at h3; cases h3; exact h4 hb⟩
theorem HeapOk.pure [Glb] (h : HeapOk σ ρ I w) (p : Pure I w I' w') : HeapOk σ ρ I' w' where
  own := fun o x ho => by
    obtain ⟨b, c, e, h1, h2, h3, h4, h5⟩ := h.own o x ho
    have hb : b < w.heap.size := h.owns_lt ⟨o, x, ho, h1⟩
    refine ⟨b, c, e, h1, h2.of_eq (p.below.block b hb), h3, fun hI => (p.immNew b hI).elim h4 (fun h => by omega), fun i hi => ⟨(h5 i hi).1, fun j hj => ?_⟩⟩
    exact (p.step (σ := σ) (ρ := ρ)).rep h ((h5 i hi).2 j hj)
  inj := h.inj
  base := h.base.pure p
theorem Pure.refl (h : ∀ b, I b → b < w.heap.size) : Pure I w I w := ⟨Below.refl _ _, fun _ h => h, fun _ h => .inl h, h⟩
theorem Pure.trans (a : Pure I w I' w') (b : Pure I' w' I'' w'') : Pure I w I'' w'' :=
  ⟨a.below.trans (b.below.mono a.below.size), fun k h => b.imm k (a.imm k h), fun k h => (b.immNew k h).elim (a.immNew k) (fun h => .inr (Nat.le_trans a.below.size h)), b.lt⟩
theorem HeapOk.forget [Glb] (h : HeapOk σ ρ I w) (hs : ∀ o x, σ' o = some x → σ o = some x) : HeapOk σ' ρ I w :=
  ⟨fun o x ho => h.own o x (hs o x ho), fun o o' x x' b h1 h2 => h.inj o o' x x' b (hs _ _ h1) (hs _ _ h2), h.base⟩
theorem Kept.owns (h : Kept σ ρ I w σ' ρ' I' w') (hs : ∀ b, Owns σ'' ρ'' b → Owns σ' ρ' b) : Kept σ ρ I w σ'' ρ'' I' w' :=
  { h with owned := fun b hb => h.owned b (hs b hb) }
theorem Kept.unforget (h : Kept σ ρ I w σ' ρ' I' w') {σ0 : Heap} (hs : ∀ o x, σ o = some x → σ0 o = some x) : Kept σ0 ρ I w σ' ρ' I' w' :=
  have up : ∀ b, Owns σ ρ b → Owns σ0 ρ b := fun _ ⟨o, x, h1, h2⟩ => ⟨o, x, hs o x h1, h2⟩
  { h with kept := fun b hb hn => h.kept b hb fun ho => hn (up b ho), owned := fun b hb => (h.owned b hb).imp (up b) id, immNew := fun b hb => (h.immNew b hb).imp id (Or.imp (up b) id) }
end steps
end Go.Iso
