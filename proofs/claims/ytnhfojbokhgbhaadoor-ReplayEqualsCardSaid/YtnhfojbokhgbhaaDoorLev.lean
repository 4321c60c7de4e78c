/- Part of the proof of a law: contracts of the functions that the law reaches, or plain laws of them, out of the abstract layer (the texts YtnhfojbokhgbhaaDoorIso..). No condition. -/
import Derived.Test.YtnhfojbokhgbhaaDoorIsoF
import Derived.Test.YtnhfojbokhgbhaaDoorW
import Derived.Test.YtnhfojbokhgbhaaDoorPa
import Derived.Test.YtnhfojbokhgbhaaDoorRows
import Derived.Lib.SmallJoins
import Derived.Deep.Strs
namespace Go.Proofs.YtnhfojbokhgbhaaDoor
open Go Go.Iso Go.Proofs
set_option linter.unusedSimpArgs false
set_option linter.unusedVariables false
/-! ### What comes out from some number of rounds on -/
section
variable {ι : Type} {κ : ι → Nat} {α β : Type}
def Ev (κ : ι → Nat) (f : ι → Option α) (P : α → Prop) : Prop := ∃ k0 r, P r ∧ ∀ i, k0 ≤ κ i → f i = some r
theorem Ev.ret {r : α} {P : α → Prop} (h : P r) : Ev κ (fun _ => some r) P := ⟨0, r, h, fun _ _ => rfl⟩
theorem Ev.mono {f : ι → Option α} {P Q : α → Prop} (h : Ev κ f P) (hi : ∀ r, P r → Q r) : Ev κ f Q := by
 obtain ⟨k, r, hp, h⟩ := h; exact ⟨k, r, hi r hp, h⟩
theorem Ev.bind {f : ι → Option α} {g : ι → α → Option β} {P : α → Prop} {Q : β → Prop} (h : Ev κ f P) (hk : ∀ r, P r → Ev κ (fun i => g i r) Q) : Ev κ (fun i => (f i).bind (g i)) Q := by
 obtain ⟨k, r, hp, h⟩ := h
 obtain ⟨k', r', hq, h'⟩ := hk r hp
 exact ⟨max k k', r', hq, fun i hi => by (show (f i).bind (g i) = some r'; rw [h i (by omega)]; exact h' i (by omega))⟩
theorem Ev.op {o : Option α} {g : ι → α → Option β} {Q : β → Prop} (x : α) (h : o = some x) (hk : Ev κ (fun i => g i x) Q) : Ev κ (fun i => o.bind (g i)) Q := by
 subst h; exact hk
theorem Ev.late {f : ι → Option α} {P : α → Prop} (k : Nat) {r : α} (h : ∀ i, k ≤ κ i → f i = some r) (hp : P r) : Ev κ f P := ⟨k, r, hp, h⟩
theorem Ev.congr {f g : ι → Option α} {P : α → Prop} (k : Nat) (h : ∀ i, k ≤ κ i → f i = g i) (hg : Ev κ g P) : Ev κ f P := by
 obtain ⟨k', r, hp, h'⟩ := hg
 exact ⟨max k k', r, hp, fun i hi => by rw [h i (by omega)]; exact h' i (by omega)⟩
theorem Ev.ite {c : Prop} [Decidable c] {f g : ι → Option α} {P : α → Prop} (h1 : c → Ev κ f P) (h2 : ¬ c → Ev κ g P) : Ev κ (fun i => if c then f i else g i) P := by
 by_cases h : c
 ·simpa only [h, if_true] using h1 h
 ·simpa only [h, if_false] using h2 h
theorem Ev.iter {S R : Type} {F : ι → (S → Option R) → S → Option R} (Inv : S → Prop) (μ : S → Nat) {P : R → Prop}
  (h : ∀ s, Inv s → ∀ G : ι → S → Option R, (∀ t, Inv t → μ t < μ s → Ev κ (fun i => G i t) P) → Ev κ (fun i => F i (G i) s) P) {s : S} (hs : Inv s) :
  Ev κ (fun i => Iso.iter (κ i) (F i) s) P := by
 have key : ∀ (n : Nat) (s : S) (d : Nat), μ s ≤ n → Inv s → Ev κ (fun i => Iso.iter (κ i - d) (F i) s) P := by
  intro n
  induction n with
  | zero =>
   intro s d hm hs
   refine Ev.congr (d + 1) (fun i hi => ?_) (h s hs (fun i => Iso.iter (κ i - (d + 1)) (F i)) fun t ht hlt => absurd hlt (by omega))
   obtain ⟨e, he⟩ : ∃ e, κ i - d = e + 1 := ⟨κ i - (d + 1), by omega⟩
   rw [he, iter_succ, show e = κ i - (d + 1) by omega]
  | succ n ih =>
   intro s d hm hs
   refine Ev.congr (d + 1) (fun i hi => ?_) (h s hs (fun i => Iso.iter (κ i - (d + 1)) (F i)) fun t ht hlt => ih t (d + 1) (by omega) ht)
   obtain ⟨e, he⟩ : ∃ e, κ i - d = e + 1 := ⟨κ i - (d + 1), by omega⟩
   rw [he, iter_succ, show e = κ i - (d + 1) by omega]
 exact Ev.congr 0 (fun i _ => by simp only [Nat.sub_zero]) (key (μ s) s 0 (Nat.le_refl _) hs)
end
/-! ### Numbers in base 10000 -/
def DG (l : List Int) : Prop := ∀ d ∈ l, 0 ≤ d ∧ d < 10000
def vl : List Int → Int
 | [] => 0
 | d :: l => d + 10000 * vl l
def B (n : Nat) : Int := 10000 ^ n
theorem B_zero : B 0 = 1 := rfl
theorem B_succ {n : Nat} : B (n + 1) = 10000 * B n := by unfold B; rw [Int.pow_succ, Int.mul_comm]
theorem B_pos {n : Nat} : 0 < B n := Int.pow_pos (by omega)
theorem B_le {n m : Nat} (h : n ≤ m) : B n ≤ B m := by
 induction m with
 | zero => obtain rfl : n = 0 := by omega
           exact Int.le_refl _
 | succ m ih =>
  by_cases e : n = m + 1
  ·rw [e]; exact Int.le_refl _
  ·have := ih (by omega); have := @B_pos m; rw [B_succ]; omega
theorem vl_app {a b : List Int} : vl (a ++ b) = vl a + B a.length * vl b := by
 induction a with
 | nil => simp [vl, B_zero]
 | cons d a ih => simp only [List.cons_append, vl, ih, List.length_cons, B_succ, Int.mul_add, Int.add_assoc, Int.mul_assoc]
theorem vl_one {d : Int} : vl [d] = d := by simp [vl]
theorem DG.nil : DG [] := fun d h => by cases h
theorem DG.one {d : Int} (h0 : 0 ≤ d) (h1 : d < 10000) : DG [d] := fun e h => by obtain rfl := List.mem_singleton.1 h; exact ⟨h0, h1⟩
theorem DG.take {a : List Int} (h : DG a) (n : Nat) : DG (a.take n) := fun d hd => h d (List.mem_of_mem_take hd)
theorem DG.drop {a : List Int} (h : DG a) (n : Nat) : DG (a.drop n) := fun d hd => h d (List.mem_of_mem_drop hd)
theorem DG.get {a : List Int} (h : DG a) {i : Nat} (hi : i < a.length) : 0 ≤ a[i] ∧ a[i] < 10000 := h _ (List.getElem_mem hi)
theorem DG.tail {a : List Int} {d : Int} (h : DG (d :: a)) : DG a := fun e he => h e (List.mem_cons_of_mem _ he)
theorem vl_nn : ∀ {a : List Int}, DG a → 0 ≤ vl a
 | [], _ => Int.le_refl _
 | d :: a, h => by have := vl_nn h.tail; have := h d (List.mem_cons_self ..); unfold vl; omega
theorem vl_lt : ∀ {a : List Int}, DG a → vl a < B a.length
 | [], _ => by simp [vl, B_zero]
 | d :: a, h => by
  have := vl_lt h.tail; have := h d (List.mem_cons_self ..)
  rw [List.length_cons, B_succ]; unfold vl; omega
def NM (l : List Int) : Prop := DG l ∧ l.getLast? ≠ some 0
theorem NM.nil : NM [] := ⟨DG.nil, by simp⟩
theorem NM.ge {a : List Int} (h : NM a) (h0 : a ≠ []) : B (a.length - 1) ≤ vl a := by
 obtain ⟨hd, hl⟩ := h
 have e := List.dropLast_concat_getLast h0
 have hg := List.getLast?_eq_some_getLast h0
 have hm := hd _ (List.getLast_mem h0)
 have h1 : DG a.dropLast := fun d h => hd d (List.dropLast_subset a h)
 have h2 := vl_nn h1
 rw [← e, vl_app, vl_one, List.length_append, List.length_dropLast, List.length_singleton, Nat.add_sub_cancel]
 have hz : a.getLast h0 ≠ 0 := fun hz => hl (by rw [hg, hz])
 have hb := @B_pos (a.length - 1)
 have : B (a.length - 1) * 1 ≤ B (a.length - 1) * a.getLast h0 := Int.mul_le_mul_of_nonneg_left (by omega) (by omega)
 omega
theorem NM.pos {a : List Int} (h : NM a) (h0 : a ≠ []) : 0 < vl a := by have := h.ge h0; have := @B_pos (a.length - 1); omega
theorem NM.len {a : List Int} (h : NM a) {n : Nat} (hv : vl a < B n) : a.length ≤ n := by
 by_cases h0 : a = []
 ·subst h0; simp
 ·have h1 := h.ge h0
  have h2 : a.length ≠ 0 := fun e => h0 (List.length_eq_zero_iff.1 e)
  have h3 : a.length - 1 < n := by
   rcases Nat.lt_or_ge (a.length - 1) n with h | h
   ·exact h
   ·have := B_le h; omega
  omega
theorem NM.mono {a b : List Int} (ha : NM a) (hb : DG b) (h : vl a ≤ vl b) : a.length ≤ b.length := ha.len (by have := vl_lt hb; omega)
theorem DG.set {a : List Int} (h : DG a) {i : Nat} {d : Int} (h0 : 0 ≤ d) (h1 : d < 10000) : DG (a.set i d) := fun e he => by
 rcases List.mem_or_eq_of_mem_set he with h2 | h2
 ·exact h e h2
 ·subst h2; exact ⟨h0, h1⟩
theorem DG.zero {n : Nat} : DG (List.replicate n 0) := fun d h => by obtain ⟨_, rfl⟩ := List.mem_replicate.1 h; omega
end Go.Proofs.YtnhfojbokhgbhaaDoor
namespace Go.Proofs.YtnhfojbokhgbhaaDoor
open Go Go.Iso Go.Proofs
set_option linter.unusedSimpArgs false
set_option linter.unusedVariables false
/-! ### Lengths that an int tells -/
abbrev mx63 : Nat := 9223372036854775807
theorem fitR_mem {xs : List (List D)} (h : D.fitR xs) : ∀ r ∈ xs, D.fitL r := by
 induction xs with
 | nil => intro r hr; cases hr
 | cons x xs ih =>
  unfold D.fitR at h
  intro r hr
  rcases List.mem_cons.1 hr with rfl | hr
  ·exact h.1
  ·exact ih h.2 r hr
theorem fit_slD {α : Type} {f : α → List D} {l : List α} (h : D.fit (slD f l)) : l.length ≤ mx63 ∧ ∀ x ∈ l, D.fitL (f x) := by
 unfold slD D.fit at h
 refine ⟨by simpa using h.1, fun x hx => fitR_mem h.2 _ (List.mem_map_of_mem hx)⟩
theorem fitL_cons {x : D} {r : List D} (h : D.fitL (x :: r)) : D.fit x ∧ D.fitL r := by unfold D.fitL at h; exact h
def FitN (n : NodeA) : Prop := D.fitL n.enc
def FitR (r : RatA) : Prop := D.fitL r.enc
theorem FitR.get {r : RatA} (h : FitR r) : r.num.length ≤ mx63 ∧ r.den.length ≤ mx63 := by
 unfold FitR at h
 rw [RatA.enc_eta] at h
 have h1 := fitL_cons (fitL_cons h).2
 exact ⟨(fit_slD h1.1).1, (fit_slD (fitL_cons h1.2).1).1⟩
theorem FitN.get {n : NodeA} (h : FitN n) : n.num.num.length ≤ mx63 ∧ n.num.den.length ≤ mx63 ∧ n.kids.length ≤ mx63 ∧ ∀ k ∈ n.kids, FitN k := by
 unfold FitN at h
 rw [NodeA.enc_eta] at h
 have h1 := fitL_cons (fitL_cons (fitL_cons h).2).2
 have h2 := fitL_cons h1.2
 have h3 := fitL_cons h2.2
 have h4 := fitL_cons h3.2
 exact ⟨(fit_slD h2.1).1, (fit_slD h3.1).1, fit_slD h4.1⟩
/-! ### Loops -/
section
variable {ι : Type} {κ : ι → Nat} {α β : Type}
theorem Ev.iterP {S R : Type} {F : ι → (S → Option R) → S → Option R} (Inv : S → Prop) (μ : S → Nat) {P : S → R → Prop}
  (h : ∀ s, Inv s → ∀ G : ι → S → Option R, (∀ t, Inv t → μ t < μ s → Ev κ (fun i => G i t) (P t)) → Ev κ (fun i => F i (G i) s) (P s)) {s : S} (hs : Inv s) :
  Ev κ (fun i => Iso.iter (κ i) (F i) s) (P s) := by
 have key : ∀ (n : Nat) (s : S) (d : Nat), μ s ≤ n → Inv s → Ev κ (fun i => Iso.iter (κ i - d) (F i) s) (P s) := by
  intro n
  induction n with
  | zero =>
   intro s d hm hs
   refine Ev.congr (d + 1) (fun i hi => ?_) (h s hs (fun i => Iso.iter (κ i - (d + 1)) (F i)) fun t ht hlt => absurd hlt (by omega))
   obtain ⟨e, he⟩ : ∃ e, κ i - d = e + 1 := ⟨κ i - (d + 1), by omega⟩
   rw [he, iter_succ, show e = κ i - (d + 1) by omega]
  | succ n ih =>
   intro s d hm hs
   refine Ev.congr (d + 1) (fun i hi => ?_) (h s hs (fun i => Iso.iter (κ i - (d + 1)) (F i)) fun t ht hlt => ih t (d + 1) (by omega) ht)
   obtain ⟨e, he⟩ : ∃ e, κ i - d = e + 1 := ⟨κ i - (d + 1), by omega⟩
   rw [he, iter_succ, show e = κ i - (d + 1) by omega]
 exact Ev.congr 0 (fun i _ => by simp only [Nat.sub_zero]) (key (μ s) s 0 (Nat.le_refl _) hs)
theorem idxG {l : List α} {i : Nat} (h : i < l.length) : idx l (i : Int) = some l[i] := by rw [idx_nat, List.getElem?_eq_getElem h]
theorem intNe {a b : Nat} : (((a : Int) != (b : Int)) = true) ↔ a ≠ b := by
 rw [bne_iff_ne]; omega
theorem loop2 {ρ : Type} {l m : List α} (hl : l.length = m.length) (hf : l.length ≤ mx63) {F : ι → (Int → Option (Out Unit ρ)) → Int → Option (Out Unit ρ)} {bad : ρ}
  (hend : ∀ k G, F k G (l.length : Int) = some (.go ()))
  (hstep : ∀ (i : Nat) (h1 : i < l.length) (h2 : i < m.length) (G : ι → Int → Option (Out Unit ρ)) (P : Out Unit ρ → Prop), (l[i] = m[i] → Ev κ (fun k => G k ((i + 1 : Nat) : Int)) P) → (l[i] ≠ m[i] → P (.out bad)) → Ev κ (fun k => F k (G k) (i : Int)) P) :
  Ev κ (fun k => Iso.iter (κ k) (F k) 0) (fun o => (o = .go () ∧ l = m) ∨ (o = .out bad ∧ l ≠ m)) := by
 refine Ev.iter (fun s => ∃ i : Nat, s = (i : Int) ∧ i ≤ l.length ∧ ∀ j (h1 : j < l.length) (h2 : j < m.length), j < i → l[j] = m[j]) (fun s => l.length - s.toNat) ?_ ⟨0, rfl, Nat.zero_le _, fun j _ _ h => absurd h (Nat.not_lt_zero j)⟩
 rintro s ⟨i, rfl, hi, hj⟩ G hG
 by_cases h : i = l.length
 ·subst h
  refine Ev.late 0 (fun k _ => hend k (G k)) (.inl ⟨rfl, List.ext_getElem hl fun j h1 h2 => hj j h1 h2 h1⟩)
 ·refine hstep i (by omega) (by omega) G _ (fun he => hG _ ⟨i + 1, rfl, by omega, fun j h1 h2 hlt => ?_⟩ (by simp only [Int.toNat_natCast]; omega)) fun hne => .inr ⟨rfl, fun he => hne (by subst he; rfl)⟩
  by_cases e : j = i
  ·subst e; exact he
  ·exact hj j h1 h2 (by omega)
theorem loop2d {ρ : Type} {l m : List α} (hl : l.length = m.length) (hf : l.length ≤ mx63) {F : ι → (Int → Option (Out Unit ρ)) → Int → Option (Out Unit ρ)} {Bad : ρ → Prop}
  (hend : ∀ k G, F k G (-1 : Int) = some (.go ()))
  (hstep : ∀ (i : Nat) (h1 : i < l.length) (h2 : i < m.length) (G : ι → Int → Option (Out Unit ρ)) (P : Out Unit ρ → Prop), (l[i] = m[i] → Ev κ (fun k => G k ((i : Int) - 1)) P) → (l[i] ≠ m[i] → ∀ b, Bad b → P (.out b)) → Ev κ (fun k => F k (G k) (i : Int)) P) :
  Ev κ (fun k => Iso.iter (κ k) (F k) ((l.length : Int) - 1)) (fun o => (o = .go () ∧ l = m) ∨ (∃ b, o = .out b ∧ Bad b ∧ l ≠ m)) := by
 refine Ev.iter (fun s => ∃ i : Nat, s = (i : Int) - 1 ∧ i ≤ l.length ∧ ∀ j (h1 : j < l.length) (h2 : j < m.length), i ≤ j → l[j] = m[j]) (fun s => (s + 1).toNat) ?_ ⟨l.length, rfl, Nat.le_refl _, fun j h1 _ h => absurd h (by omega)⟩
 rintro s ⟨i, rfl, hi, hj⟩ G hG
 cases i with
 | zero =>
  refine Ev.late 0 (fun k _ => ?_) (.inl ⟨rfl, List.ext_getElem hl fun j h1 h2 => hj j h1 h2 (Nat.zero_le _)⟩)
  exact hend k (G k)
 | succ i =>
  rw [show ((i + 1 : Nat) : Int) - 1 = (i : Int) by omega]
  refine hstep i (by omega) (by omega) G _ (fun he => hG _ ⟨i, rfl, by omega, fun j h1 h2 hle => ?_⟩ (by omega)) fun hne b hb => .inr ⟨b, rfl, hb, fun he => hne (by subst he; rfl)⟩
  by_cases e : j = i
  ·subst e; exact he
  ·exact hj j h1 h2 (by omega)
end
section
variable {ι : Type} {κ : ι → Nat}
abbrev Tells {α : Type} (κ : ι → Nat) (f : ι → Option Bool) (x y : α) : Prop := Ev κ f fun r => r = true ↔ x = y
end
/-! ### Words, trees -/
theorem w64m {k : Nat} (h : k ≤ mx63) : IntKind.wrap .i64 ((k : Int) - 1) = (k : Int) - 1 := w64 (by omega) (by unfold mx63 at h; omega)
theorem tless {K : Nat} {b : Bool} : ∃ z, tree_less K b = some z ∧ z ≠ 0 := by
 unfold tree_less; cases b
 ·exact ⟨1, rfl, by omega⟩
 ·exact ⟨-1, rfl, by omega⟩
theorem tless_bind {κ : Nat → Nat} {b : Bool} {β : Type} {g : Int → Option β} {Q : β → Prop} (h : ∀ z : Int, z ≠ 0 → Ev κ (fun _ => g z) Q) : Ev κ (fun K => (tree_less (κ K) b).bind g) Q := by
 obtain ⟨z, h1, h2⟩ := tless (K := 0) (b := b)
 have h1' : ∀ K, tree_less K b = some z := fun K => by have := h1; unfold tree_less at this ⊢; exact this
 exact Ev.congr 0 (fun i _ => by rw [h1' (κ i)]; rfl) (h z h2)
theorem tree_words_ev {l m : List Int} (h1 : l.length ≤ mx63) (h2 : m.length ≤ mx63) : Ev id (fun K => tree_words K l m) (fun z => z = 0 ↔ l = m) := by
 unfold tree_words
 refine Ev.ite (fun h => ?_) fun h => ?_
 ·have hne := intNe.1 h
  refine tless_bind (κ := id) fun z hz => Ev.ret ⟨fun e => absurd e hz, fun e => absurd (by rw [e]) hne⟩
 ·have hl : l.length = m.length := by
   rcases Nat.decEq l.length m.length with e | e
   ·exact absurd (intNe.2 e) h
   ·exact e
  rw [w64m h1]
  refine Ev.bind (loop2d (κ := id) (Bad := fun b => b ≠ 0) hl h1 (fun k G => ?_) fun i i1 i2 G P hs hb => ?_) fun o ho => ?_
  ·rw [if_neg (by decide)]
  ·refine Ev.congr 0 (fun K _ => by rw [if_pos (decide_eq_true (by omega)), idxG i1, idxG i2]) ?_
   show Ev id (fun K => if (l[i] != m[i]) = true then (tree_less (id K) (decide (l[i] < m[i]))).bind (fun r14 => outM (some r14)) else G K (IntKind.wrap .i64 ((i : Int) - 1))) P
   refine Ev.ite (fun hne => ?_) fun heq => ?_
   ·refine tless_bind (κ := id) fun z hz => Ev.ret (hb (by simpa using hne) z hz)
   ·rw [w64m (by omega)]; exact hs (by simpa using heq)
  ·rcases ho with ⟨rfl, he⟩ | ⟨b, rfl, hb, hne⟩
   ·exact Ev.ret ⟨fun _ => he, fun _ => rfl⟩
   ·exact Ev.ret ⟨fun e => absurd e hb, fun e => absurd e hne⟩
theorem r08_words_ev {l m : List Int} (h1 : l.length ≤ mx63) (h2 : m.length ≤ mx63) : Ev id (fun K => r08_words K l m) (fun z => z = 0 ↔ l = m) := by
 unfold r08_words
 refine Ev.ite (fun h => ?_) fun h => ?_
 ·have hne := intNe.1 h
  have : l ≠ m := fun e => hne (by rw [e])
  refine Ev.ite (fun _ => Ev.ret ⟨fun e => by omega, fun e => absurd e this⟩) fun _ => Ev.ret ⟨fun e => by omega, fun e => absurd e this⟩
 ·have hl : l.length = m.length := by
   rcases Nat.decEq l.length m.length with e | e
   ·exact absurd (intNe.2 e) h
   ·exact e
  rw [w64m h1]
  refine Ev.bind (loop2d (κ := id) (Bad := fun b => b ≠ 0) hl h1 (fun k G => ?_) fun i i1 i2 G P hs hb => ?_) fun o ho => ?_
  ·rw [if_neg (by decide)]
  ·refine Ev.congr 0 (fun K _ => by rw [if_pos (decide_eq_true (by omega)), idxG i1, idxG i2]) ?_
   show Ev id (fun K => if (l[i] != m[i]) = true then (if decide (l[i] < m[i]) = true then outM (some (-1)) else outM (some 1)) else G K (IntKind.wrap .i64 ((i : Int) - 1))) P
   refine Ev.ite (fun hne => ?_) fun heq => ?_
   ·refine Ev.ite (fun _ => Ev.ret (hb (by simpa using hne) _ (by omega))) fun _ => Ev.ret (hb (by simpa using hne) _ (by omega))
   ·rw [w64m (by omega)]; exact hs (by simpa using heq)
  ·rcases ho with ⟨rfl, he⟩ | ⟨b, rfl, hb, hne⟩
   ·exact Ev.ret ⟨fun _ => he, fun _ => rfl⟩
   ·exact Ev.ret ⟨fun e => absurd e hb, fun e => absurd e hne⟩
theorem node_eq {a b : NodeA} : a = b ↔ a.op = b.op ∧ a.name = b.name ∧ a.num.neg = b.num.neg ∧ a.num.num = b.num.num ∧ a.num.den = b.num.den ∧ a.kids = b.kids := by
 obtain ⟨o, n, ⟨g, u, d⟩, k⟩ := a
 obtain ⟨o', n', ⟨g', u', d'⟩, k'⟩ := b
 simp only [NodeA.mk.injEq, RatA.mk.injEq, NodeA.op, NodeA.name, NodeA.num, NodeA.kids, and_assoc]
theorem name_ne {a b : ByteArray} : ((!(a.toList == b.toList)) = true) ↔ a ≠ b := by
 rw [Bool.not_eq_true']
 constructor
 ·intro h e; rw [e] at h; simp at h
 ·intro h
  cases hb : (a.toList == b.toList) with
  | false => rfl
  | true => exact absurd (bytes_eq.1 hb) h
theorem neg_ne {a b : Bool} : ((!(a == b)) = true) ↔ a ≠ b := by cases a <;> cases b <;> simp
theorem kid_lt {n k : NodeA} (h : k ∈ n.kids) : SizeOf.sizeOf k < SizeOf.sizeOf n := by
 obtain ⟨o, m, r, ks⟩ := n; exact NodeA.size_kid h
theorem tree_Compare_ev {a b : NodeA} (ha : FitN a) (hb : FitN b) : Ev id (fun K => tree_Compare K a b) (fun z => z = 0 ↔ a = b) := by
 unfold tree_Compare
 refine Ev.iterP (κ := id) (F := fun K self q => tree_Compare_body K self q.1 q.2) (fun q : NodeA × NodeA => FitN q.1 ∧ FitN q.2) (fun q => SizeOf.sizeOf q.1) (P := fun q z => z = 0 ↔ q.1 = q.2) ?_ (s := (a, b)) ⟨ha, hb⟩
 rintro ⟨a, b⟩ ⟨ha, hb⟩ G hG
 simp only at ha hb hG ⊢
 obtain ⟨fa1, fa2, fa3, fa4⟩ := ha.get
 obtain ⟨fb1, fb2, fb3, fb4⟩ := hb.get
 unfold tree_Compare_body
 refine Ev.ite (fun h => ?_) fun h1 => ?_
 ·have hne : a ≠ b := fun e => by subst e; simp at h
  exact tless_bind (κ := id) fun z hz => Ev.ret ⟨fun e => absurd e hz, fun e => absurd e hne⟩
 refine Ev.ite (fun h => ?_) fun h2 => ?_
 ·have hne : a ≠ b := fun e => name_ne.1 h (by rw [e])
  exact tless_bind (κ := id) fun z hz => Ev.ret ⟨fun e => absurd e hz, fun e => absurd e hne⟩
 refine Ev.ite (fun h => ?_) fun h3 => ?_
 ·have hne : a ≠ b := fun e => neg_ne.1 h (by rw [e])
  exact tless_bind (κ := id) fun z hz => Ev.ret ⟨fun e => absurd e hz, fun e => absurd e hne⟩
 have e1 : a.op = b.op := by simpa using h1
 have e2 : a.name = b.name := Classical.byContradiction fun e => h2 (name_ne.2 e)
 have e3 : a.num.neg = b.num.neg := Classical.byContradiction fun e => h3 (neg_ne.2 e)
 refine Ev.bind (tree_words_ev fa1 fb1) fun z hz => ?_
 refine Ev.ite (fun h => ?_) fun h4 => ?_
 ·have hz0 : z ≠ 0 := by simpa using h
  exact Ev.ret ⟨fun e => absurd e hz0, fun e => absurd (hz.2 (by rw [e])) hz0⟩
 have e4 := hz.1 (by simpa using h4)
 refine Ev.bind (tree_words_ev fa2 fb2) fun z hz => ?_
 refine Ev.ite (fun h => ?_) fun h5 => ?_
 ·have hz0 : z ≠ 0 := by simpa using h
  exact Ev.ret ⟨fun e => absurd e hz0, fun e => absurd (hz.2 (by rw [e])) hz0⟩
 have e5 := hz.1 (by simpa using h5)
 refine Ev.ite (fun h => ?_) fun h6 => ?_
 ·have hne : a ≠ b := fun e => intNe.1 h (by rw [e])
  exact tless_bind (κ := id) fun z hz => Ev.ret ⟨fun e => absurd e hz, fun e => absurd e hne⟩
 have hl : a.kids.length = b.kids.length := Classical.byContradiction fun e => h6 (intNe.2 e)
 have hbad : ∀ {z : Int}, z ≠ 0 → a.kids ≠ b.kids → (z = 0 ↔ a = b) := fun hz hne => ⟨fun e => absurd e hz, fun e => absurd (by rw [e]) hne⟩
 refine Ev.bind (P := fun o => (o = .go () ∧ a.kids = b.kids) ∨ (∃ z, o = .out z ∧ z ≠ 0 ∧ a.kids ≠ b.kids)) ?_ fun o ho => ?_
 ·refine Ev.iter (κ := id) (fun s => ∃ i : Nat, s = (i : Int) ∧ i ≤ a.kids.length ∧ ∀ j (h1 : j < a.kids.length) (h2 : j < b.kids.length), j < i → a.kids[j] = b.kids[j]) (fun s => a.kids.length - s.toNat) ?_ ⟨0, rfl, Nat.zero_le _, fun j _ _ h => absurd h (Nat.not_lt_zero j)⟩
  rintro s ⟨i, rfl, hi, hj⟩ H hH
  refine Ev.ite (fun h => ?_) fun h => ?_
  ·have hlt : i < a.kids.length := by have := of_decide_eq_true h; omega
   have hlt' : i < b.kids.length := by omega
   refine Ev.op _ (idxG hlt) (Ev.op _ (idxG hlt') ?_)
   refine Ev.bind (hG (a.kids[i], b.kids[i]) ⟨fa4 _ (List.getElem_mem _), fb4 _ (List.getElem_mem _)⟩ (kid_lt (List.getElem_mem _))) fun z hz => ?_
   refine Ev.ite (fun h => ?_) fun h7 => ?_
   ·have hz0 : z ≠ 0 := by simpa using h
    exact Ev.ret (.inr ⟨z, rfl, hz0, fun e => hz0 (hz.2 (by simp only; congr 1))⟩)
   ·have he := hz.1 (by simpa using h7)
    rw [w64s (show i < 9223372036854775807 by unfold mx63 at fa3; omega)]
    refine hH _ ⟨i + 1, rfl, by omega, fun j h1 h2 hlt => ?_⟩ (by simp only [Int.toNat_natCast]; omega)
    by_cases e : j = i
    ·subst e; exact he
    ·exact hj j h1 h2 (by omega)
  ·have : i = a.kids.length := by
    have hh : ¬ ((i : Int) < (a.kids.length : Int)) := fun h' => h (decide_eq_true h')
    omega
   exact Ev.ret (.inl ⟨rfl, List.ext_getElem hl fun j h1 h2 => hj j h1 h2 (by omega)⟩)
 ·rcases ho with ⟨rfl, he⟩ | ⟨z, rfl, hz, hne⟩
  ·exact Ev.ret ⟨fun _ => node_eq.2 ⟨e1, e2, e3, e4, e5, he⟩, fun _ => rfl⟩
  ·exact Ev.ret (hbad hz hne)
theorem r08_less_bind {κ : Nat → Nat} {x y : Int} {β : Type} {g : Int → Nat → Option β} {Q : β → Prop} (h : ∀ z : Int, (z = 0 ↔ x = y) → Ev κ (g z) Q) : Ev κ (fun K => (r08_less (κ K) x y).bind fun z => g z K) Q := by
 have key : ∃ z : Int, (z = 0 ↔ x = y) ∧ ∀ K, r08_less K x y = some z := by
  rcases Int.lt_trichotomy x y with h | h | h
  ·exact ⟨-1, by constructor <;> intro <;> omega, fun K => by unfold r08_less; rw [if_pos (decide_eq_true h)]⟩
  ·exact ⟨0, by constructor <;> intro <;> omega, fun K => by unfold r08_less; rw [if_neg (by simp; omega), if_neg (by simp; omega)]⟩
  ·exact ⟨1, by constructor <;> intro <;> omega, fun K => by unfold r08_less; rw [if_neg (by simp; omega), if_pos (decide_eq_true h)]⟩
 obtain ⟨z, h1, h2⟩ := key
 exact Ev.congr 0 (fun i _ => by rw [h2 (κ i)]; rfl) (h z h1)
theorem r08_Compare_ev {a b : NodeA} (ha : FitN a) (hb : FitN b) : Ev id (fun K => r08_Compare K a b) (fun z => z = 0 ↔ a = b) := by
 unfold r08_Compare
 refine Ev.iterP (κ := id) (F := fun K self q => r08_Compare_body K self q.1 q.2) (fun q : NodeA × NodeA => FitN q.1 ∧ FitN q.2) (fun q => SizeOf.sizeOf q.1) (P := fun q z => z = 0 ↔ q.1 = q.2) ?_ (s := (a, b)) ⟨ha, hb⟩
 rintro ⟨a, b⟩ ⟨ha, hb⟩ G hG
 simp only at ha hb hG ⊢
 obtain ⟨fa1, fa2, fa3, fa4⟩ := ha.get
 obtain ⟨fb1, fb2, fb3, fb4⟩ := hb.get
 unfold r08_Compare_body
 refine r08_less_bind (κ := id) fun z hz => ?_
 refine Ev.ite (fun h => ?_) fun h1 => ?_
 ·have hz0 : z ≠ 0 := by simpa using h
  exact Ev.ret ⟨fun e => absurd e hz0, fun e => absurd (hz.2 (by rw [e])) hz0⟩
 have e1 := hz.1 (by simpa using h1)
 refine Ev.ite (fun h => ?_) fun h2 => ?_
 ·have hne : a ≠ b := fun e => name_ne.1 h (by rw [e])
  exact Ev.ite (fun _ => Ev.ret ⟨fun e => by omega, fun e => absurd e hne⟩) fun _ => Ev.ret ⟨fun e => by omega, fun e => absurd e hne⟩
 refine Ev.ite (fun h => ?_) fun h3 => ?_
 ·have hne : a ≠ b := fun e => neg_ne.1 h (by rw [e])
  exact Ev.ite (fun _ => Ev.ret ⟨fun e => by omega, fun e => absurd e hne⟩) fun _ => Ev.ret ⟨fun e => by omega, fun e => absurd e hne⟩
 have e2 : a.name = b.name := Classical.byContradiction fun e => h2 (name_ne.2 e)
 have e3 : a.num.neg = b.num.neg := Classical.byContradiction fun e => h3 (neg_ne.2 e)
 refine Ev.bind (r08_words_ev fa1 fb1) fun z hz => ?_
 refine Ev.ite (fun h => ?_) fun h4 => ?_
 ·have hz0 : z ≠ 0 := by simpa using h
  exact Ev.ret ⟨fun e => absurd e hz0, fun e => absurd (hz.2 (by rw [e])) hz0⟩
 have e4 := hz.1 (by simpa using h4)
 refine Ev.bind (r08_words_ev fa2 fb2) fun z hz => ?_
 refine Ev.ite (fun h => ?_) fun h5 => ?_
 ·have hz0 : z ≠ 0 := by simpa using h
  exact Ev.ret ⟨fun e => absurd e hz0, fun e => absurd (hz.2 (by rw [e])) hz0⟩
 have e5 := hz.1 (by simpa using h5)
 refine r08_less_bind (κ := id) fun z hz => ?_
 refine Ev.ite (fun h => ?_) fun h6 => ?_
 ·have hz0 : z ≠ 0 := by simpa using h
  exact Ev.ret ⟨fun e => absurd e hz0, fun e => absurd (hz.2 (by rw [e])) hz0⟩
 have hl : a.kids.length = b.kids.length := by have := hz.1 (by simpa using h6); omega
 have hbad : ∀ {z : Int}, z ≠ 0 → a.kids ≠ b.kids → (z = 0 ↔ a = b) := fun hz hne => ⟨fun e => absurd e hz, fun e => absurd (by rw [e]) hne⟩
 refine Ev.bind (P := fun o => (o = .go () ∧ a.kids = b.kids) ∨ (∃ z, o = .out z ∧ z ≠ 0 ∧ a.kids ≠ b.kids)) ?_ fun o ho => ?_
 ·refine Ev.iter (κ := id) (fun s => ∃ i : Nat, s = (i : Int) ∧ i ≤ a.kids.length ∧ ∀ j (h1 : j < a.kids.length) (h2 : j < b.kids.length), j < i → a.kids[j] = b.kids[j]) (fun s => a.kids.length - s.toNat) ?_ ⟨0, rfl, Nat.zero_le _, fun j _ _ h => absurd h (Nat.not_lt_zero j)⟩
  rintro s ⟨i, rfl, hi, hj⟩ H hH
  refine Ev.ite (fun h => ?_) fun h => ?_
  ·have hlt : i < a.kids.length := by have := of_decide_eq_true h; omega
   have hlt' : i < b.kids.length := by omega
   refine Ev.op _ (idxG hlt) (Ev.op _ (idxG hlt') ?_)
   refine Ev.bind (hG (a.kids[i], b.kids[i]) ⟨fa4 _ (List.getElem_mem _), fb4 _ (List.getElem_mem _)⟩ (kid_lt (List.getElem_mem _))) fun z hz => ?_
   refine Ev.ite (fun h => ?_) fun h7 => ?_
   ·have hz0 : z ≠ 0 := by simpa using h
    exact Ev.ret (.inr ⟨z, rfl, hz0, fun e => hz0 (hz.2 (by simp only; congr 1))⟩)
   ·have he := hz.1 (by simpa using h7)
    rw [w64s (show i < 9223372036854775807 by unfold mx63 at fa3; omega)]
    refine hH _ ⟨i + 1, rfl, by omega, fun j h1 h2 hlt => ?_⟩ (by simp only [Int.toNat_natCast]; omega)
    by_cases e : j = i
    ·subst e; exact he
    ·exact hj j h1 h2 (by omega)
  ·have : i = a.kids.length := by
    have hh : ¬ ((i : Int) < (a.kids.length : Int)) := fun h' => h (decide_eq_true h')
    omega
   exact Ev.ret (.inl ⟨rfl, List.ext_getElem hl fun j h1 h2 => hj j h1 h2 (by omega)⟩)
 ·rcases ho with ⟨rfl, he⟩ | ⟨z, rfl, hz, hne⟩
  ·exact Ev.ret ⟨fun _ => node_eq.2 ⟨e1, e2, e3, e4, e5, he⟩, fun _ => rfl⟩
  ·exact Ev.ret (hbad hz hne)
theorem tree_Equal_ev {a b : NodeA} (ha : FitN a) (hb : FitN b) : Tells id (fun K => tree_Equal K a b) a b := by
 unfold tree_Equal
 exact Ev.bind (tree_Compare_ev ha hb) fun z hz => Ev.ret (by rw [beq_iff_eq]; exact hz)
theorem r08_Equal_ev {a b : NodeA} (ha : FitN a) (hb : FitN b) : Tells id (fun K => r08_Equal K a b) a b := by
 unfold r08_Equal
 exact Ev.bind (r08_Compare_ev ha hb) fun z hz => Ev.ret (by rw [beq_iff_eq]; exact hz)
end Go.Proofs.YtnhfojbokhgbhaaDoor
namespace Go.Proofs.YtnhfojbokhgbhaaDoor
open Go Go.Iso Go.Proofs
set_option linter.unusedSimpArgs false
set_option linter.unusedVariables false
section
variable {ι : Type} {κ : ι → Nat} {α : Type}
theorem listL {ρ : Type} {l m : List α} (hl : l.length = m.length) (hf : l.length ≤ mx63) {E : ι → α → α → Option (Out Unit ρ) → Option (Out Unit ρ)} {bad : ρ}
  (hE : ∀ x ∈ l, ∀ y ∈ m, ∀ (C : ι → Option (Out Unit ρ)) (P : Out Unit ρ → Prop), (x = y → Ev κ C P) → (x ≠ y → P (.out bad)) → Ev κ (fun k => E k x y (C k)) P) :
  Ev κ (fun k => Iso.iter (S := Int) (R := Out Unit ρ) (κ k) (fun again i => if (decide (i < (l.length : Int))) = true then (idx l i).bind fun x => (idx m i).bind fun y => E k x y (again (IntKind.wrap .i64 (i + (1 : Int)))) else some (.go ())) 0) (fun o => (o = .go () ∧ l = m) ∨ (o = .out bad ∧ l ≠ m)) := by
 refine loop2 hl hf (fun k G => by rw [if_neg (by simp)]) fun i h1 h2 G P hs hb => ?_
 refine Ev.congr 0 (fun k _ => by rw [if_pos (decide_eq_true (by omega)), idxG h1, idxG h2, Option.bind_some, Option.bind_some, w64s (show i < 9223372036854775807 by unfold mx63 at hf; omega)]) ?_
 exact hE _ (List.getElem_mem _) _ (List.getElem_mem _) _ P hs hb
theorem listT {l m : List α} (hf : l.length ≤ mx63) {E : ι → α → α → Option (Out Unit Bool) → Option (Out Unit Bool)}
  (hE : ∀ x ∈ l, ∀ y ∈ m, ∀ (C : ι → Option (Out Unit Bool)) (P : Out Unit Bool → Prop), (x = y → Ev κ C P) → (x ≠ y → P (.out false)) → Ev κ (fun k => E k x y (C k)) P) :
  Tells κ (fun k => if ((l.length : Int) != (m.length : Int)) = true then some false else (Iso.iter (S := Int) (R := Out Unit Bool) (κ k) (fun again i => if (decide (i < (l.length : Int))) = true then (idx l i).bind fun x => (idx m i).bind fun y => E k x y (again (IntKind.wrap .i64 (i + (1 : Int)))) else some (.go ())) 0).bind (Out.fin fun _ => some true)) l m := by
 refine Ev.ite (fun h => ?_) fun h => ?_
 ·exact Ev.ret ⟨fun e => (by cases e), fun e => absurd (by rw [e]) (intNe.1 h)⟩
 ·have hl : l.length = m.length := Classical.byContradiction fun e => h (intNe.2 e)
  refine Ev.bind (listL hl hf hE) fun o ho => ?_
  rcases ho with ⟨rfl, he⟩ | ⟨rfl, hne⟩
  ·exact Ev.ret ⟨fun _ => he, fun _ => rfl⟩
  ·exact Ev.ret ⟨fun e => (by cases e), fun e => absurd e hne⟩
theorem tellsE {T : ι → α → α → Option Bool} {l m : List α} (hT : ∀ x ∈ l, ∀ y ∈ m, Tells κ (fun k => T k x y) x y) : ∀ x ∈ l, ∀ y ∈ m, ∀ (C : ι → Option (Out Unit Bool)) (P : Out Unit Bool → Prop), (x = y → Ev κ C P) → (x ≠ y → P (.out false)) →
  Ev κ (fun k => (T k x y).bind fun r => if (!r) = true then outM (some false) else C k) P := fun x hx y hy C P h1 h2 => by
 refine Ev.bind (hT x hx y hy) fun r hr => ?_
 cases r with
 | true => exact Ev.congr 0 (fun _ _ => rfl) (h1 (hr.1 rfl))
 | false => exact Ev.ret (h2 fun e => by have := hr.2 e; cases this)
end
/-! ### Lists -/
theorem ints_ev {l m : List Int} (hf : l.length ≤ mx63) : Tells id (fun K => replay_ints K l m) l m := by
 unfold replay_ints
 refine listT (κ := id) hf (E := fun K x y c => if (x != y) = true then outM (some false) else c) fun x _ y _ C P h1 h2 => ?_
 exact Ev.ite (fun h => Ev.ret (h2 (by simpa using h))) fun h => h1 (by simpa using h)
theorem path_ev {l m : List Int} (hf : l.length ≤ mx63) : Tells id (fun K => r08_SamePath K l m) l m := by
 unfold r08_SamePath
 refine listT (κ := id) hf (E := fun K x y c => if (x != y) = true then outM (some false) else c) fun x _ y _ C P h1 h2 => ?_
 exact Ev.ite (fun h => Ev.ret (h2 (by simpa using h))) fun h => h1 (by simpa using h)
theorem texts_ev {l m : List ByteArray} (hf : l.length ≤ mx63) : Tells id (fun K => replay_texts K l m) l m := by
 unfold replay_texts
 refine listT (κ := id) hf (E := fun K x y c => if (!(x.toList == y.toList)) = true then outM (some false) else c) fun x _ y _ C P h1 h2 => ?_
 exact Ev.ite (fun h => Ev.ret (h2 (name_ne.1 h))) fun h => h1 (Classical.byContradiction fun e => h (name_ne.2 e))
theorem strings_ev {l m : List ByteArray} (hf : l.length ≤ mx63) : Tells id (fun K => r20_SameStrings K l m) l m := by
 unfold r20_SameStrings
 refine listT (κ := id) hf (E := fun K x y c => if (!(x.toList == y.toList)) = true then outM (some false) else c) fun x _ y _ C P h1 h2 => ?_
 exact Ev.ite (fun h => Ev.ret (h2 (name_ne.1 h))) fun h => h1 (Classical.byContradiction fun e => h (name_ne.2 e))
theorem nodes_ev {l m : List NodeA} (hf : l.length ≤ mx63) (hl : ∀ x ∈ l, FitN x) (hm : ∀ x ∈ m, FitN x) : Tells id (fun K => replay_nodes K l m) l m := by
 unfold replay_nodes
 exact listT (κ := id) hf (E := fun K x y c => (tree_Equal K x y).bind fun r => if (!r) = true then outM (some false) else c) (tellsE (T := fun K x y => tree_Equal K x y) fun x hx y hy => tree_Equal_ev (hl x hx) (hm y hy))
theorem sameNodes_ev {l m : List NodeA} (hf : l.length ≤ mx63) (hl : ∀ x ∈ l, FitN x) (hm : ∀ x ∈ m, FitN x) : Tells id (fun K => r08_SameNodes K l m) l m := by
 unfold r08_SameNodes
 exact listT (κ := id) hf (E := fun K x y c => (r08_Equal K x y).bind fun r => if (!r) = true then outM (some false) else c) (tellsE (T := fun K x y => r08_Equal K x y) fun x hx y hy => r08_Equal_ev (hl x hx) (hm y hy))
theorem fit_rat0 {r : RatA} (h : FitR r) : FitN (NodeA.mk 0 ⟨#[]⟩ r []) := by
 unfold FitN
 unfold FitR at h
 rw [RatA.enc_eta] at h
 rw [NodeA.enc_mk]
 obtain ⟨q1, q2⟩ := fitL_cons h
 obtain ⟨q3, q4⟩ := fitL_cons q2
 obtain ⟨q5, q6⟩ := fitL_cons q4
 refine ⟨?_, ?_, q1, q3, q5, ?_, trivial⟩
 ·exact rfl
 ·show okVal _ = true; decide
 ·unfold slD D.fit D.fitR; simp
theorem rats_ev {a b : RatA} (ha : FitR a) (hb : FitR b) : Tells id (fun K => replay_rats K a b) a b := by
 unfold replay_rats
 refine Ev.bind (tree_Equal_ev (fit_rat0 ha) (fit_rat0 hb)) fun r hr => Ev.ret (hr.trans ⟨fun e => by cases e; rfl, fun e => by rw [e]⟩)
theorem slEq_ev {l m : List Int} (hf : l.length ≤ mx63) : Tells id (fun K => slices_Equal_uint32_uint32 K l m) l m := by
 unfold slices_Equal_uint32_uint32
 refine listT (κ := id) hf (E := fun K x y c => if (x != y) = true then outM (some false) else c) fun x _ y _ C P h1 h2 => ?_
 exact Ev.ite (fun h => Ev.ret (h2 (by simpa using h))) fun h => h1 (by simpa using h)
theorem rat_eq {a b : RatA} : a = b ↔ a.neg = b.neg ∧ a.num = b.num ∧ a.den = b.den := by cases a; cases b; simp
theorem sameRat_ev {a b : RatA} (ha : FitR a) : Tells id (fun K => r02_Same K a b) a b := by
 unfold r02_Same
 refine Ev.ite (fun h => ?_) fun h => Ev.ret ⟨fun e => (by cases e), fun e => absurd (by rw [e]; simp) h⟩
 have e1 : a.neg = b.neg := by simpa using h
 refine Ev.bind (slEq_ev ha.get.1) fun r hr => ?_
 cases r with
 | false => exact Ev.congr 0 (fun _ _ => rfl) (Ev.ret ⟨fun e => (by cases e), fun e => by have := hr.2 (by rw [e]); cases this⟩)
 | true =>
  refine Ev.congr 0 (fun _ _ => rfl) (Ev.bind (slEq_ev ha.get.2) fun q hq => Ev.ret (hq.trans ?_))
  rw [rat_eq]
  exact ⟨fun e => ⟨e1, hr.1 rfl, e⟩, fun e => e.2.2⟩
theorem sameRats_ev {l m : List RatA} (hf : l.length ≤ mx63) (hl : ∀ x ∈ l, FitR x) : Tells id (fun K => r20_sameRats K l m) l m := by
 unfold r20_sameRats
 exact listT (κ := id) hf (E := fun K x y c => (r02_Same K x y).bind fun r => if (!r) = true then outM (some false) else c) (tellsE (T := fun K x y => r02_Same K x y) fun x hx y hy => sameRat_ev (hl x hx))
/-! ### Tests that tell a difference -/
abbrev Parts {ι α : Type} (κ : ι → Nat) (f : ι → Option Bool) (x y : α) : Prop := Ev κ f fun r => r = true ↔ x ≠ y
section
variable {ι : Type} {κ : ι → Nat} {α β : Type} {x y : α}
theorem parts_tr (h : x ≠ y) : Parts κ (fun _ => some true) x y := Ev.ret ⟨fun _ => h, fun _ => rfl⟩
theorem parts_step {u v : β} {t : ι → Option Bool} {g : ι → Option Bool} (hp : x = y → u = v) (ht : Tells κ t u v) (hg : u = v → Parts κ g x y) : Parts κ (fun k => (t k).bind fun r => if (!r) = true then some true else g k) x y := by
 refine Ev.bind ht fun r hr => ?_
 cases r with
 | true => exact Ev.congr 0 (fun _ _ => rfl) (hg (hr.1 rfl))
 | false => exact Ev.congr 0 (fun _ _ => rfl) (parts_tr fun e => by have := hr.2 (hp e); cases this)
theorem parts_last {u v : β} {t : ι → Option Bool} (ht : Tells κ t u v) (hp : x = y ↔ u = v) : Parts κ (fun k => (t k).bind fun r => some (!r)) x y := by
 refine Ev.bind ht fun r hr => Ev.ret ?_
 cases r with
 | true => exact ⟨fun e => (by cases e), fun e => absurd (hp.2 (hr.1 rfl)) e⟩
 | false => exact ⟨fun _ e => (by have := hr.2 (hp.1 e); cases this), fun _ => rfl⟩
theorem parts_ite {c : Prop} [Decidable c] {g : ι → Option Bool} (hc : c → x ≠ y) (hg : ¬ c → Parts κ g x y) : Parts κ (fun k => if c then some true else g k) x y :=
 Ev.ite (fun h => parts_tr (hc h)) hg
theorem parts_out {ρ : Type} {t : ι → Option Bool} {bad : ρ} (ht : Parts κ t x y) : Ev κ (fun k => (t k).bind fun v => if v = true then outM (some bad) else some (Out.go ())) (fun o => (o = .go () ∧ x = y) ∨ (o = .out bad ∧ x ≠ y)) := by
 refine Ev.bind ht fun r hr => ?_
 cases r with
 | true => exact Ev.congr 0 (fun _ _ => rfl) (Ev.ret (.inr ⟨rfl, hr.1 rfl⟩))
 | false => exact Ev.congr 0 (fun _ _ => rfl) (Ev.ret (.inl ⟨rfl, Classical.byContradiction fun e => by have := hr.2 e; cases this⟩))
end
/-! ### Polynomials -/
theorem mono_eq {a b : Api_MonoA} : a = b ↔ a.exps = b.exps ∧ a.coef = b.coef := by cases a; cases b; simp
theorem poly_eq {a b : Api_PolyA} : a = b ↔ a.n = b.n ∧ a.terms = b.terms := by cases a; cases b; simp
def FitM (m : Api_MonoA) : Prop := m.exps.length ≤ mx63 ∧ FitR m.coef
def FitP (p : Api_PolyA) : Prop := p.terms.length ≤ mx63 ∧ ∀ t ∈ p.terms, FitM t
theorem fitM_of {m : Api_MonoA} (h : D.fitL m.enc) : FitM m := by
 rw [Api_MonoA.enc_eta] at h
 obtain ⟨q1, q2⟩ := fitL_cons h
 refine ⟨(fit_slD q1).1, ?_⟩
 unfold FitR; rw [RatA.enc_eta]; exact q2
theorem fitP_of {p : Api_PolyA} (h : D.fitL p.enc) : FitP p := by
 rw [Api_PolyA.enc_eta] at h
 obtain ⟨q1, q2⟩ := fitL_cons h
 obtain ⟨q3, _⟩ := fitL_cons q2
 exact ⟨(fit_slD q3).1, fun t ht => fitM_of ((fit_slD q3).2 t ht)⟩
theorem poly_head {a b : Api_PolyA} : Parts (κ := (id : Nat → Nat)) (fun K => if (a.n != b.n) = true then some true else some ((a.terms.length : Int) != (b.terms.length : Int))) (a.n, a.terms.length) (b.n, b.terms.length) := by
 refine parts_ite (fun h e => ?_) fun h => Ev.ret ?_
 ·have := (Prod.mk.inj e).1; rw [this] at h; simp at h
 ·have e1 : a.n = b.n := by simpa using h
  rw [intNe]
  exact ⟨fun h e => h (Prod.mk.inj e).2, fun h e => h (by rw [e1, e])⟩
theorem polys_ev {a b : Api_PolyA} (ha : FitP a) (hb : FitP b) : Tells id (fun K => replay_polys K a b) a b := by
 unfold replay_polys
 refine Ev.bind (parts_out (κ := id) poly_head) fun o ho => ?_
 rcases ho with ⟨rfl, he⟩ | ⟨rfl, hne⟩
 case inr => exact Ev.ret ⟨fun e => (by cases e), fun e => absurd (by rw [e]) hne⟩
 obtain ⟨e1, e2⟩ := Prod.mk.inj he
 show Tells id (fun K => Option.bind (iter K _ 0) (Out.fin fun _ => some true)) a b
 refine Ev.bind (loop2 (κ := id) (bad := false) e2 ha.1 (fun k G => by rw [if_neg (by simp)]) fun i h1 h2 G P hs hb' => ?_) fun o ho => ?_
 ·refine Ev.congr 0 (fun k _ => by rw [if_pos (decide_eq_true (by omega)), idxG h1, idxG h2, Option.bind_some, Option.bind_some, w64s (show i < 9223372036854775807 by have := ha.1; unfold mx63 at this; omega)]) ?_
  refine Ev.bind (parts_out (κ := id) (bad := (Out.out false : Out Unit Bool)) (x := a.terms[i]) (y := b.terms[i]) (t := fun K => (replay_ints K a.terms[i].exps b.terms[i].exps).bind fun r20 => if (!r20) = true then some true else (replay_rats K a.terms[i].coef b.terms[i].coef).bind fun r23 => some (!r23)) ?_) fun o ho => ?_
  ·refine parts_step (fun e => by rw [e]) (ints_ev (ha.2 _ (List.getElem_mem _)).1) fun e3 => parts_last (rats_ev (ha.2 _ (List.getElem_mem _)).2 (hb.2 _ (List.getElem_mem _)).2) ?_
   rw [mono_eq]; exact ⟨fun e => e.2, fun e => ⟨e3, e⟩⟩
  ·rcases ho with ⟨rfl, he⟩ | ⟨rfl, hne⟩
   ·exact hs he
   ·exact Ev.ret (hb' hne)
 ·rcases ho with ⟨rfl, he⟩ | ⟨rfl, hne⟩
  ·exact Ev.ret ⟨fun _ => poly_eq.2 ⟨e1, he⟩, fun _ => rfl⟩
  ·exact Ev.ret ⟨fun e => (by cases e), fun e => absurd (by rw [e]) hne⟩
theorem samePoly_ev {a b : Api_PolyA} (ha : FitP a) (hb : FitP b) : Tells id (fun K => r03_Same K a b) a b := by
 unfold r03_Same
 refine Ev.bind (parts_out (κ := id) poly_head) fun o ho => ?_
 rcases ho with ⟨rfl, he⟩ | ⟨rfl, hne⟩
 case inr => exact Ev.ret ⟨fun e => (by cases e), fun e => absurd (by rw [e]) hne⟩
 obtain ⟨e1, e2⟩ := Prod.mk.inj he
 show Tells id (fun K => Option.bind (iter K _ 0) (Out.fin fun _ => some true)) a b
 refine Ev.bind (loop2 (κ := id) (bad := false) e2 ha.1 (fun k G => by rw [if_neg (by simp)]) fun i h1 h2 G P hs hb' => ?_) fun o ho => ?_
 ·refine Ev.congr 0 (fun k _ => by rw [if_pos (decide_eq_true (by omega)), idxG h1, idxG h2, Option.bind_some, Option.bind_some, w64s (show i < 9223372036854775807 by have := ha.1; unfold mx63 at this; omega)]) ?_
  have fa := ha.2 _ (List.getElem_mem h1)
  generalize hx : a.terms[i] = x at *
  generalize hy : b.terms[i] = y at *
  refine Ev.bind (P := fun o => (o = .go () ∧ x = y) ∨ (o = .out (.out false) ∧ x ≠ y)) ?_ fun o ho => ?_
  ·refine Ev.bind (parts_out (κ := id) (bad := (Out.out (Out.out false) : Out Unit (Out Unit Bool))) (x := (x.exps.length, x.coef)) (y := (y.exps.length, y.coef)) (t := fun K => if ((x.exps.length : Int) != (y.exps.length : Int)) = true then some true else (r02_Same K x.coef y.coef).bind fun r23 => some (!r23)) ?_) fun o ho => ?_
   ·refine parts_ite (fun h e => intNe.1 h (Prod.mk.inj e).1) fun h => parts_last (sameRat_ev fa.2) ?_
    have e3 : x.exps.length = y.exps.length := Classical.byContradiction fun e => h (intNe.2 e)
    rw [Prod.mk.injEq]; exact ⟨fun e => e.2, fun e => ⟨e3, e⟩⟩
   ·rcases ho with ⟨rfl, he⟩ | ⟨rfl, hne⟩
    ·obtain ⟨e3, e4⟩ := Prod.mk.inj he
     show Ev id (fun K => Option.bind (iter K _ 0) (Out.fin fun _ => some (Out.go ()))) _
     refine Ev.bind (listL (κ := id) (bad := Out.out (Out.out false)) e3 fa.1 (E := fun K u v c => if (u != v) = true then outM (outM (outM (some false))) else c) fun u _ v _ C P g1 g2 => ?_) fun o ho => ?_
     ·exact Ev.ite (fun h => Ev.ret (g2 (by simpa using h))) fun h => g1 (by simpa using h)
     ·rcases ho with ⟨rfl, he⟩ | ⟨rfl, hne⟩
      ·exact Ev.ret (.inl ⟨rfl, mono_eq.2 ⟨he, e4⟩⟩)
      ·exact Ev.ret (.inr ⟨rfl, fun e => hne (by rw [e])⟩)
    ·exact Ev.ret (.inr ⟨rfl, fun e => hne (by rw [e])⟩)
  ·rcases ho with ⟨rfl, he⟩ | ⟨rfl, hne⟩
   ·exact hs he
   ·exact Ev.ret (hb' hne)
 ·rcases ho with ⟨rfl, he⟩ | ⟨rfl, hne⟩
  ·exact Ev.ret ⟨fun _ => poly_eq.2 ⟨e1, he⟩, fun _ => rfl⟩
  ·exact Ev.ret ⟨fun e => (by cases e), fun e => absurd (by rw [e]) hne⟩
/-! ### Pairs -/
theorem pair_eq {a b : Api_PairA} : a = b ↔ a.what = b.what ∧ a.with_ = b.with_ ∧ a.rates = b.rates := by cases a; cases b; simp
def FitQ (p : Api_PairA) : Prop := FitN p.what ∧ FitN p.with_ ∧ p.rates.length ≤ mx63 ∧ ∀ r ∈ p.rates, FitN r
theorem pairs_ev {l m : List Api_PairA} (hf : l.length ≤ mx63) (hl : ∀ x ∈ l, FitQ x) (hm : ∀ x ∈ m, FitQ x) : Tells id (fun K => replay_pairs K l m) l m := by
 unfold replay_pairs
 refine Ev.ite (fun h => ?_) fun h => ?_
 ·exact Ev.ret ⟨fun e => (by cases e), fun e => absurd (by rw [e]) (intNe.1 h)⟩
 have e0 : l.length = m.length := Classical.byContradiction fun e => h (intNe.2 e)
 refine Ev.bind (loop2 (κ := id) (bad := false) e0 hf (fun k G => by rw [if_neg (by simp)]) fun i h1 h2 G P hs hb' => ?_) fun o ho => ?_
 ·refine Ev.congr 0 (fun k _ => by rw [if_pos (decide_eq_true (by omega)), idxG h1, idxG h2, Option.bind_some, Option.bind_some, w64s (show i < 9223372036854775807 by unfold mx63 at hf; omega)]) ?_
  obtain ⟨f1, f2, f3, f4⟩ := hl _ (List.getElem_mem h1)
  obtain ⟨g1, g2, g3, g4⟩ := hm _ (List.getElem_mem h2)
  refine Ev.bind (parts_out (κ := id) (bad := (Out.out false : Out Unit Bool)) (x := l[i]) (y := m[i]) (t := fun K => (tree_Equal K l[i].what m[i].what).bind fun r15 => if (!r15) = true then some true else (tree_Equal K l[i].with_ m[i].with_).bind fun r18 => if (!r18) = true then some true else (replay_nodes K l[i].rates m[i].rates).bind fun r21 => some (!r21)) ?_) fun o ho => ?_
  ·refine parts_step (fun e => by rw [e]) (tree_Equal_ev f1 g1) fun e1 => parts_step (fun e => by rw [e]) (tree_Equal_ev f2 g2) fun e2 => parts_last (nodes_ev f3 f4 g4) ?_
   rw [pair_eq]; exact ⟨fun e => e.2.2, fun e => ⟨e1, e2, e⟩⟩
  ·rcases ho with ⟨rfl, he⟩ | ⟨rfl, hne⟩
   ·exact hs he
   ·exact Ev.ret (hb' hne)
 ·rcases ho with ⟨rfl, he⟩ | ⟨rfl, hne⟩
  ·exact Ev.ret ⟨fun _ => he, fun _ => rfl⟩
  ·exact Ev.ret ⟨fun e => (by cases e), fun e => absurd e hne⟩
theorem samePairs_ev {l m : List Api_PairA} (hf : l.length ≤ mx63) (hl : ∀ x ∈ l, FitQ x) (hm : ∀ x ∈ m, FitQ x) : Tells id (fun K => r17_SamePairs K l m) l m := by
 unfold r17_SamePairs
 refine Ev.ite (fun h => ?_) fun h => ?_
 ·exact Ev.ret ⟨fun e => (by cases e), fun e => absurd (by rw [e]) (intNe.1 h)⟩
 have e0 : l.length = m.length := Classical.byContradiction fun e => h (intNe.2 e)
 refine Ev.bind (loop2 (κ := id) (bad := false) e0 hf (fun k G => by rw [if_neg (by simp)]) fun i h1 h2 G P hs hb' => ?_) fun o ho => ?_
 ·refine Ev.congr 0 (fun k _ => by rw [if_pos (decide_eq_true (by omega)), idxG h1, idxG h2, Option.bind_some, Option.bind_some, w64s (show i < 9223372036854775807 by unfold mx63 at hf; omega)]) ?_
  obtain ⟨f1, f2, f3, f4⟩ := hl _ (List.getElem_mem h1)
  obtain ⟨g1, g2, g3, g4⟩ := hm _ (List.getElem_mem h2)
  refine Ev.bind (parts_out (κ := id) (bad := (Out.out false : Out Unit Bool)) (x := l[i]) (y := m[i]) (t := fun K => (r08_Equal K l[i].what m[i].what).bind fun r15 => if (!r15) = true then some true else (r08_Equal K l[i].with_ m[i].with_).bind fun r18 => if (!r18) = true then some true else (r08_SameNodes K l[i].rates m[i].rates).bind fun r21 => some (!r21)) ?_) fun o ho => ?_
  ·refine parts_step (fun e => by rw [e]) (r08_Equal_ev f1 g1) fun e1 => parts_step (fun e => by rw [e]) (r08_Equal_ev f2 g2) fun e2 => parts_last (sameNodes_ev f3 f4 g4) ?_
   rw [pair_eq]; exact ⟨fun e => e.2.2, fun e => ⟨e1, e2, e⟩⟩
  ·rcases ho with ⟨rfl, he⟩ | ⟨rfl, hne⟩
   ·exact hs he
   ·exact Ev.ret (hb' hne)
 ·rcases ho with ⟨rfl, he⟩ | ⟨rfl, hne⟩
  ·exact Ev.ret ⟨fun _ => he, fun _ => rfl⟩
  ·exact Ev.ret ⟨fun e => (by cases e), fun e => absurd e hne⟩
end Go.Proofs.YtnhfojbokhgbhaaDoor
namespace Go.Proofs.YtnhfojbokhgbhaaDoor
open Go Go.Iso Go.Proofs
set_option linter.unusedSimpArgs false
set_option linter.unusedVariables false
/-! ### Certificates -/
theorem sq_eq {a b : Api_SquareA} : a = b ↔ a.weight = b.weight ∧ a.poly = b.poly := by cases a; cases b; simp
theorem cert_eq {a b : Api_CertA} : a = b ↔ a.kind = b.kind ∧ a.nums = b.nums ∧ a.polys = b.polys ∧ a.squares = b.squares ∧ a.kids = b.kids := by cases a; cases b; simp [Api_CertA.kind, Api_CertA.nums, Api_CertA.polys, Api_CertA.squares, Api_CertA.kids]
def FitS (s : Api_SquareA) : Prop := FitR s.weight ∧ FitP s.poly
def FitC (c : Api_CertA) : Prop := D.fitL c.enc
theorem fitP_cells {p : Api_PolyA} {r : List D} (h : D.fitL (.val (.int .i64 p.n) :: slD Api_MonoA.enc p.terms :: r)) : FitP p ∧ D.fitL r := by
 obtain ⟨q1, q2⟩ := fitL_cons h
 obtain ⟨q3, q4⟩ := fitL_cons q2
 exact ⟨⟨(fit_slD q3).1, fun t ht => fitM_of ((fit_slD q3).2 t ht)⟩, q4⟩
theorem fitR_cells {x : RatA} {r : List D} (h : D.fitL (.val (.bool x.neg) :: slD u32V x.num :: slD u32V x.den :: r)) : FitR x ∧ D.fitL r := by
 obtain ⟨q1, q2⟩ := fitL_cons h
 obtain ⟨q3, q4⟩ := fitL_cons q2
 obtain ⟨q5, q6⟩ := fitL_cons q4
 refine ⟨?_, q6⟩
 unfold FitR; rw [RatA.enc_eta]; exact ⟨q1, q3, q5, trivial⟩
theorem FitC.get {c : Api_CertA} (h : FitC c) : c.nums.length ≤ mx63 ∧ (∀ x ∈ c.nums, FitR x) ∧ c.polys.length ≤ mx63 ∧ (∀ x ∈ c.polys, FitP x) ∧ c.squares.length ≤ mx63 ∧ (∀ x ∈ c.squares, FitS x) ∧ c.kids.length ≤ mx63 ∧ ∀ x ∈ c.kids, FitC x := by
 unfold FitC at h
 rw [Api_CertA.enc_eta] at h
 obtain ⟨q1, q2⟩ := fitL_cons h
 obtain ⟨q3, q4⟩ := fitL_cons q2
 obtain ⟨q5, q6⟩ := fitL_cons q4
 obtain ⟨q7, q8⟩ := fitL_cons q6
 obtain ⟨q9, _⟩ := fitL_cons q8
 refine ⟨(fit_slD q3).1, (fit_slD q3).2, (fit_slD q5).1, fun x hx => fitP_of ((fit_slD q5).2 x hx), (fit_slD q7).1, fun x hx => ?_, (fit_slD q9).1, (fit_slD q9).2⟩
 have := (fit_slD q7).2 x hx
 rw [Api_SquareA.enc_eta] at this
 obtain ⟨w1, w2⟩ := fitR_cells this
 exact ⟨w1, (fitP_cells w2).1⟩
section
variable {κ : Nat → Nat}
theorem loopThen {α β : Type} {x y : β} {l m : List α} {F : Nat → Option (Out Unit Bool)} {g : Nat → Option Bool} (hp : x = y → l = m) (hF : Ev κ F (fun o => (o = .go () ∧ l = m) ∨ (o = .out false ∧ l ≠ m))) (hg : l = m → Tells κ g x y) : Tells κ (fun K => (F K).bind (Out.fin fun _ => g K)) x y := by
 refine Ev.bind hF fun o ho => ?_
 rcases ho with ⟨rfl, he⟩ | ⟨rfl, hne⟩
 ·exact hg he
 ·exact Ev.ret ⟨fun e => (by cases e), fun e => absurd (hp e) hne⟩
theorem headThen {α β : Type} {x y : β} {u v : α} {t : Nat → Option Bool} {g : Nat → Option Bool} (hp : x = y → u = v) (ht : Parts κ t u v) (hg : u = v → Tells κ g x y) : Tells κ (fun K => (((t K) : Option Bool).bind fun w => if w = true then outM (some false) else some (Out.go ())).bind (Out.fin fun _ => g K)) x y := by
 refine Ev.bind (parts_out ht) fun o ho => ?_
 rcases ho with ⟨rfl, he⟩ | ⟨rfl, hne⟩
 ·exact hg he
 ·exact Ev.ret ⟨fun e => (by cases e), fun e => absurd (hp e) hne⟩
theorem squares_loop {l m : List Api_SquareA} {tr : Nat → RatA → RatA → Option Bool} {tp : Nat → Api_PolyA → Api_PolyA → Option Bool} (hl : l.length = m.length) (hf : l.length ≤ mx63)
  (hr : ∀ x ∈ l, ∀ y ∈ m, Tells κ (fun K => tr (κ K) x.weight y.weight) x.weight y.weight) (hp : ∀ x ∈ l, ∀ y ∈ m, Tells κ (fun K => tp (κ K) x.poly y.poly) x.poly y.poly) :
  Ev κ (fun K => iter (S := Int) (R := Out Unit Bool) (κ K) (fun again i => if (decide (i < (l.length : Int))) = true then
   ((((idx l i).bind fun x => (idx m i).bind fun y => (tr (κ K) x.weight y.weight).bind fun r => if (!r) = true then some true else (tp (κ K) x.poly y.poly).bind fun r => some (!r)) : Option Bool).bind (fun v => if v = true then outM (outM (some false)) else some (Out.go ()))).bind (Out.fin fun _ => again (IntKind.wrap .i64 (i + (1 : Int))))
   else some (.go ())) 0) (fun o => (o = .go () ∧ l = m) ∨ (o = .out false ∧ l ≠ m)) := by
 refine loop2 hl hf (fun k G => by rw [if_neg (by simp)]) fun i h1 h2 G P hs hb' => ?_
 refine Ev.congr 0 (fun k _ => by rw [if_pos (decide_eq_true (by omega)), idxG h1, idxG h2, Option.bind_some, Option.bind_some, w64s (show i < 9223372036854775807 by unfold mx63 at hf; omega)]) ?_
 refine Ev.bind (parts_out (bad := (Out.out false : Out Unit Bool)) (x := l[i]) (y := m[i]) (t := fun K => (tr (κ K) l[i].weight m[i].weight).bind fun r => if (!r) = true then some true else (tp (κ K) l[i].poly m[i].poly).bind fun r => some (!r)) ?_) fun o ho => ?_
 ·refine parts_step (fun e => by rw [e]) (hr _ (List.getElem_mem _) _ (List.getElem_mem _)) fun e3 => parts_last (hp _ (List.getElem_mem _) _ (List.getElem_mem _)) ?_
  rw [sq_eq]; exact ⟨fun e => e.2, fun e => ⟨e3, e⟩⟩
 ·rcases ho with ⟨rfl, he⟩ | ⟨rfl, hne⟩
  ·exact hs he
  ·exact Ev.ret (hb' hne)
end
theorem certs_ev {a b : Api_CertA} (ha : FitC a) (hb : FitC b) : Tells id (fun K => replay_certs K a b) a b := by
 unfold replay_certs
 refine Ev.iterP (κ := id) (F := fun K self q => replay_certs_body K self q.1 q.2) (fun q : Api_CertA × Api_CertA => FitC q.1 ∧ FitC q.2) (fun q => SizeOf.sizeOf q.1) (P := fun q r => r = true ↔ q.1 = q.2) ?_ (s := (a, b)) ⟨ha, hb⟩
 rintro ⟨a, b⟩ ⟨ha, hb⟩ G hG
 simp only at ha hb hG ⊢
 obtain ⟨a1, a2, a3, a4, a5, a6, a7, a8⟩ := ha.get
 obtain ⟨b1, b2, b3, b4, b5, b6, b7, b8⟩ := hb.get
 unfold replay_certs_body
 refine headThen (κ := id) (u := (a.kind, a.nums.length, a.polys.length, a.squares.length, a.kids.length)) (v := (b.kind, b.nums.length, b.polys.length, b.squares.length, b.kids.length)) (fun e => by rw [e]) ?_ fun he => ?_
 ·refine parts_ite (fun h e => ?_) fun h1 => parts_ite (fun h e => intNe.1 h (congrArg (·.2.1) e)) fun h2 => parts_ite (fun h e => intNe.1 h (congrArg (·.2.2.1) e)) fun h3 => parts_ite (fun h e => intNe.1 h (congrArg (·.2.2.2.1) e)) fun h4 => Ev.ret ?_
  ·have := congrArg (·.1) e; simp only at this; rw [this] at h; simp at h
  ·have e1 : a.kind = b.kind := by simpa using h1
   have e2 : a.nums.length = b.nums.length := Classical.byContradiction fun e => h2 (intNe.2 e)
   have e3 : a.polys.length = b.polys.length := Classical.byContradiction fun e => h3 (intNe.2 e)
   have e4 : a.squares.length = b.squares.length := Classical.byContradiction fun e => h4 (intNe.2 e)
   rw [intNe]
   exact ⟨fun h e => h (congrArg (·.2.2.2.2) e), fun h e => h (by rw [e1, e2, e3, e4, e])⟩
 simp only [Prod.mk.injEq] at he
 obtain ⟨k1, k2, k3, k4, k5⟩ := he
 refine loopThen (κ := id) (fun e => by rw [e]) (listL (κ := id) k2 a1 (E := fun K x y c => (replay_rats K x y).bind fun r => if (!r) = true then outM (some false) else c) (tellsE (κ := id) (T := fun K x y => replay_rats K x y) fun x hx y hy => rats_ev (a2 x hx) (b2 y hy))) fun c1 => ?_
 refine loopThen (κ := id) (fun e => by rw [e]) (listL (κ := id) k3 a3 (E := fun K x y c => (replay_polys K x y).bind fun r => if (!r) = true then outM (some false) else c) (tellsE (κ := id) (T := fun K x y => replay_polys K x y) fun x hx y hy => polys_ev (a4 x hx) (b4 y hy))) fun c2 => ?_
 refine loopThen (κ := id) (fun e => by rw [e]) (squares_loop (κ := id) (tr := replay_rats) (tp := replay_polys) k4 a5 (fun x hx y hy => rats_ev (a6 x hx).1 (b6 y hy).1) fun x hx y hy => polys_ev (a6 x hx).2 (b6 y hy).2) fun c3 => ?_
 refine loopThen (κ := id) (fun e => by rw [e]) (listL (κ := id) k5 a7 (E := fun K x y c => (G K (x, y)).bind fun r => if (!r) = true then outM (some false) else c) (tellsE (κ := id) (T := fun K x y => G K (x, y)) fun x hx y hy => hG (x, y) ⟨a8 x hx, b8 y hy⟩ (Api_CertA.kids_lt hx))) fun c4 => ?_
 exact Ev.ret ⟨fun _ => cert_eq.2 ⟨k1, c1, c2, c3, c4⟩, fun _ => rfl⟩
theorem sameCert_ev {a b : Api_CertA} (ha : FitC a) (hb : FitC b) : Tells id (fun K => r20_SameCert K a b) a b := by
 unfold r20_SameCert
 refine Ev.iterP (κ := id) (F := fun K self q => r20_SameCert_body K self q.1 q.2) (fun q : Api_CertA × Api_CertA => FitC q.1 ∧ FitC q.2) (fun q => SizeOf.sizeOf q.1) (P := fun q r => r = true ↔ q.1 = q.2) ?_ (s := (a, b)) ⟨ha, hb⟩
 rintro ⟨a, b⟩ ⟨ha, hb⟩ G hG
 simp only at ha hb hG ⊢
 obtain ⟨a1, a2, a3, a4, a5, a6, a7, a8⟩ := ha.get
 obtain ⟨b1, b2, b3, b4, b5, b6, b7, b8⟩ := hb.get
 unfold r20_SameCert_body
 refine headThen (κ := id) (u := (a.kind, a.nums, a.polys.length, a.squares.length, a.kids.length)) (v := (b.kind, b.nums, b.polys.length, b.squares.length, b.kids.length)) (fun e => by rw [e]) ?_ fun he => ?_
 ·refine parts_ite (fun h e => ?_) fun h1 => parts_step (fun e => congrArg (·.2.1) e) (sameRats_ev a1 a2) fun e2 => parts_ite (fun h e => intNe.1 h (congrArg (·.2.2.1) e)) fun h3 => parts_ite (fun h e => intNe.1 h (congrArg (·.2.2.2.1) e)) fun h4 => Ev.ret ?_
  ·have := congrArg (·.1) e; simp only at this; rw [this] at h; simp at h
  ·have e1 : a.kind = b.kind := by simpa using h1
   have e3 : a.polys.length = b.polys.length := Classical.byContradiction fun e => h3 (intNe.2 e)
   have e4 : a.squares.length = b.squares.length := Classical.byContradiction fun e => h4 (intNe.2 e)
   rw [intNe]
   exact ⟨fun h e => h (congrArg (·.2.2.2.2) e), fun h e => h (by rw [e1, e2, e3, e4, e])⟩
 simp only [Prod.mk.injEq] at he
 obtain ⟨k1, c1, k3, k4, k5⟩ := he
 refine loopThen (κ := id) (fun e => by rw [e]) (listL (κ := id) k3 a3 (E := fun K x y c => (r03_Same K x y).bind fun r => if (!r) = true then outM (some false) else c) (tellsE (κ := id) (T := fun K x y => r03_Same K x y) fun x hx y hy => samePoly_ev (a4 x hx) (b4 y hy))) fun c2 => ?_
 refine loopThen (κ := id) (fun e => by rw [e]) (squares_loop (κ := id) (tr := r02_Same) (tp := r03_Same) k4 a5 (fun x hx y hy => sameRat_ev (a6 x hx).1) fun x hx y hy => samePoly_ev (a6 x hx).2 (b6 y hy).2) fun c3 => ?_
 refine loopThen (κ := id) (fun e => by rw [e]) (listL (κ := id) k5 a7 (E := fun K x y c => (G K (x, y)).bind fun r => if (!r) = true then outM (some false) else c) (tellsE (κ := id) (T := fun K x y => G K (x, y)) fun x hx y hy => hG (x, y) ⟨a8 x hx, b8 y hy⟩ (Api_CertA.kids_lt hx))) fun c4 => ?_
 exact Ev.ret ⟨fun _ => cert_eq.2 ⟨k1, c1, c2, c3, c4⟩, fun _ => rfl⟩
/-! ### Proofs -/
theorem proof_eq {a b : Api_ProofA} : a = b ↔ (a.rule = b.rule ∧ a.name = b.name ∧ a.forms = b.forms ∧ a.subst = b.subst ∧ a.path = b.path ∧ a.args = b.args ∧ a.cert = b.cert) ∧ a.kids = b.kids := by
 cases a; cases b; simp [Api_ProofA.rule, Api_ProofA.name, Api_ProofA.forms, Api_ProofA.subst, Api_ProofA.path, Api_ProofA.args, Api_ProofA.cert, Api_ProofA.kids, and_assoc]
def FitF (p : Api_ProofA) : Prop := D.fitL p.enc
theorem fitN_cells {x : NodeA} {r : List D} (h : D.fitL (.val (.int .i64 x.op) :: .val (.string x.name) :: .val (.bool x.num.neg) :: slD u32V x.num.num :: slD u32V x.num.den :: slD NodeA.enc x.kids :: r)) : FitN x ∧ D.fitL r := by
 obtain ⟨q1, q2⟩ := fitL_cons h
 obtain ⟨q3, q4⟩ := fitL_cons q2
 obtain ⟨q5, q6⟩ := fitL_cons q4
 obtain ⟨q7, q8⟩ := fitL_cons q6
 obtain ⟨q9, q10⟩ := fitL_cons q8
 obtain ⟨q11, q12⟩ := fitL_cons q10
 refine ⟨?_, q12⟩
 unfold FitN; rw [NodeA.enc_eta]; exact ⟨q1, q3, q5, q7, q9, q11, trivial⟩
theorem fitQ_of {p : Api_PairA} (h : D.fitL p.enc) : FitQ p := by
 rw [Api_PairA.enc_eta] at h
 obtain ⟨w1, w2⟩ := fitN_cells h
 obtain ⟨w3, w4⟩ := fitN_cells w2
 obtain ⟨w5, _⟩ := fitL_cons w4
 exact ⟨w1, w3, (fit_slD w5).1, (fit_slD w5).2⟩
theorem FitF.get {p : Api_ProofA} (h : FitF p) : p.forms.length ≤ mx63 ∧ (∀ x ∈ p.forms, FitN x) ∧ p.subst.length ≤ mx63 ∧ (∀ x ∈ p.subst, FitQ x) ∧ p.path.length ≤ mx63 ∧ p.args.length ≤ mx63 ∧ FitC p.cert ∧ p.kids.length ≤ mx63 ∧ ∀ x ∈ p.kids, FitF x := by
 unfold FitF at h
 rw [Api_ProofA.enc_eta] at h
 obtain ⟨_, q2⟩ := fitL_cons h
 obtain ⟨_, q4⟩ := fitL_cons q2
 obtain ⟨q5, q6⟩ := fitL_cons q4
 obtain ⟨q7, q8⟩ := fitL_cons q6
 obtain ⟨q9, q10⟩ := fitL_cons q8
 obtain ⟨q11, q12⟩ := fitL_cons q10
 obtain ⟨q13, q14⟩ := fitL_cons q12
 obtain ⟨q15, q16⟩ := fitL_cons q14
 obtain ⟨q17, q18⟩ := fitL_cons q16
 obtain ⟨q19, q20⟩ := fitL_cons q18
 obtain ⟨q21, q22⟩ := fitL_cons q20
 obtain ⟨q23, _⟩ := fitL_cons q22
 refine ⟨(fit_slD q5).1, (fit_slD q5).2, (fit_slD q7).1, fun x hx => fitQ_of ((fit_slD q7).2 x hx), (fit_slD q9).1, (fit_slD q11).1, ?_, (fit_slD q23).1, (fit_slD q23).2⟩
 unfold FitC; rw [Api_CertA.enc_eta]; exact ⟨q13, q15, q17, q19, q21, trivial⟩
section
variable {κ : Nat → Nat}
theorem andThen {α β : Type} {x y : β} {u v : α} {t g : Nat → Option Bool} (hp : x = y → u = v) (ht : Tells κ t u v) (hg : u = v → Tells κ g x y) : Tells κ (fun K => (t K).bind fun r => if r = true then g K else some false) x y := by
 refine Ev.bind ht fun r hr => ?_
 cases r with
 | true => exact Ev.congr 0 (fun _ _ => rfl) (hg (hr.1 rfl))
 | false => exact Ev.congr 0 (fun _ _ => rfl) (Ev.ret ⟨fun e => (by cases e), fun e => by have := hr.2 (hp e); cases this⟩)
theorem andIf {β : Type} {x y : β} {c : Bool} {g : Nat → Option Bool} (hp : x = y → c = true) (hg : c = true → Tells κ g x y) : Tells κ (fun K => if c = true then g K else some false) x y :=
 Ev.ite hg fun h => Ev.ret ⟨fun e => (by cases e), fun e => absurd (hp e) h⟩
end
abbrev bareP (p : Api_ProofA) : ByteArray × ByteArray × List NodeA × List Api_PairA × List Int × List ByteArray × Api_CertA := (p.rule, p.name, p.forms, p.subst, p.path, p.args, p.cert)
theorem bare_ev {a b : Api_ProofA} (ha : FitF a) (hb : FitF b) : Tells id (fun K => replay_bare K a b) (bareP a) (bareP b) := by
 obtain ⟨a1, a2, a3, a4, a5, a6, a7, a8, a9⟩ := ha.get
 obtain ⟨b1, b2, b3, b4, b5, b6, b7, b8, b9⟩ := hb.get
 unfold replay_bare
 refine andIf (κ := id) (fun e => bytes_eq.2 (congrArg (·.1) e)) fun h1 => andIf (κ := id) (fun e => bytes_eq.2 (congrArg (·.2.1) e)) fun h2 => andThen (κ := id) (fun e => congrArg (·.2.2.1) e) (nodes_ev a1 a2 b2) fun h3 => andThen (κ := id) (fun e => congrArg (·.2.2.2.1) e) (pairs_ev a3 a4 b4) fun h4 =>
  andThen (κ := id) (fun e => congrArg (·.2.2.2.2.1) e) (ints_ev a5) fun h5 => andThen (κ := id) (fun e => congrArg (·.2.2.2.2.2.1) e) (texts_ev a6) fun h6 => Ev.bind (certs_ev a7 b7) fun r hr => Ev.ret (hr.trans ?_)
 have := bytes_eq.1 h1
 have := bytes_eq.1 h2
 simp only [bareP, Prod.mk.injEq]
 constructor
 ·intro h; exact ⟨by assumption, by assumption, h3, h4, h5, h6, h⟩
 ·intro h; exact h.2.2.2.2.2.2
theorem sameNode_ev {a b : Api_ProofA} (ha : FitF a) (hb : FitF b) : Tells id (fun K => r20_SameNode K a b) (bareP a) (bareP b) := by
 obtain ⟨a1, a2, a3, a4, a5, a6, a7, a8, a9⟩ := ha.get
 obtain ⟨b1, b2, b3, b4, b5, b6, b7, b8, b9⟩ := hb.get
 unfold r20_SameNode
 refine andIf (κ := id) (fun e => bytes_eq.2 (congrArg (·.1) e)) fun h1 => andIf (κ := id) (fun e => bytes_eq.2 (congrArg (·.2.1) e)) fun h2 => andThen (κ := id) (fun e => congrArg (·.2.2.1) e) (sameNodes_ev a1 a2 b2) fun h3 => andThen (κ := id) (fun e => congrArg (·.2.2.2.1) e) (samePairs_ev a3 a4 b4) fun h4 =>
  andThen (κ := id) (fun e => congrArg (·.2.2.2.2.1) e) (path_ev a5) fun h5 => andThen (κ := id) (fun e => congrArg (·.2.2.2.2.2.1) e) (strings_ev a6) fun h6 => Ev.bind (sameCert_ev a7 b7) fun r hr => Ev.ret (hr.trans ?_)
 have := bytes_eq.1 h1
 have := bytes_eq.1 h2
 simp only [bareP, Prod.mk.injEq]
 constructor
 ·intro h; exact ⟨by assumption, by assumption, h3, h4, h5, h6, h⟩
 ·intro h; exact h.2.2.2.2.2.2
theorem proof_bare {a b : Api_ProofA} (h : bareP a = bareP b) (hk : a.kids = b.kids) : a = b := by
 simp only [bareP, Prod.mk.injEq] at h
 exact proof_eq.2 ⟨h, hk⟩
theorem proof_head {a b : Api_ProofA} {t : Nat → Option Bool} (ht : Tells id t (bareP a) (bareP b)) : Parts (κ := (id : Nat → Nat)) (fun K => (t K).bind fun r5 => if (!r5) = true then some true else some ((a.kids.length : Int) != (b.kids.length : Int))) (bareP a, a.kids.length) (bareP b, b.kids.length) := by
 refine parts_step (fun e => congrArg (·.1) e) ht fun e1 => Ev.ret ?_
 rw [intNe]
 exact ⟨fun h e => h (congrArg (·.2) e), fun h e => h (by rw [e1, e])⟩
theorem equal_ev {a b : Api_ProofA} (ha : FitF a) (hb : FitF b) : Tells id (fun K => replay_Equal K a b) a b := by
 unfold replay_Equal
 refine Ev.iterP (κ := id) (F := fun K self q => replay_Equal_body K self q.1 q.2) (fun q : Api_ProofA × Api_ProofA => FitF q.1 ∧ FitF q.2) (fun q => SizeOf.sizeOf q.1) (P := fun q r => r = true ↔ q.1 = q.2) ?_ (s := (a, b)) ⟨ha, hb⟩
 rintro ⟨a, b⟩ ⟨ha, hb⟩ G hG
 simp only at ha hb hG ⊢
 obtain ⟨a1, a2, a3, a4, a5, a6, a7, a8, a9⟩ := ha.get
 obtain ⟨b1, b2, b3, b4, b5, b6, b7, b8, b9⟩ := hb.get
 unfold replay_Equal_body
 refine headThen (κ := id) (fun e => by rw [e]) (proof_head (bare_ev ha hb)) fun he => ?_
 obtain ⟨e1, e2⟩ := Prod.mk.inj he
 refine loopThen (κ := id) (fun e => by rw [e]) (listL (κ := id) e2 a8 (E := fun K x y c => (G K (x, y)).bind fun r => if (!r) = true then outM (some false) else c) (tellsE (κ := id) (T := fun K x y => G K (x, y)) fun x hx y hy => hG (x, y) ⟨a9 x hx, b9 y hy⟩ (Api_ProofA.kids_lt hx))) fun c4 => ?_
 exact Ev.ret ⟨fun _ => proof_bare e1 c4, fun _ => rfl⟩
theorem same_ev {a b : Api_ProofA} (ha : FitF a) (hb : FitF b) : Tells id (fun K => r20_Same K a b) a b := by
 unfold r20_Same
 refine Ev.iterP (κ := id) (F := fun K self q => r20_Same_body K self q.1 q.2) (fun q : Api_ProofA × Api_ProofA => FitF q.1 ∧ FitF q.2) (fun q => SizeOf.sizeOf q.1) (P := fun q r => r = true ↔ q.1 = q.2) ?_ (s := (a, b)) ⟨ha, hb⟩
 rintro ⟨a, b⟩ ⟨ha, hb⟩ G hG
 simp only at ha hb hG ⊢
 obtain ⟨a1, a2, a3, a4, a5, a6, a7, a8, a9⟩ := ha.get
 obtain ⟨b1, b2, b3, b4, b5, b6, b7, b8, b9⟩ := hb.get
 unfold r20_Same_body
 refine headThen (κ := id) (fun e => by rw [e]) (proof_head (sameNode_ev ha hb)) fun he => ?_
 obtain ⟨e1, e2⟩ := Prod.mk.inj he
 refine loopThen (κ := id) (fun e => by rw [e]) (listL (κ := id) e2 a8 (E := fun K x y c => (G K (x, y)).bind fun r => if (!r) = true then outM (some false) else c) (tellsE (κ := id) (T := fun K x y => G K (x, y)) fun x hx y hy => hG (x, y) ⟨a9 x hx, b9 y hy⟩ (Api_ProofA.kids_lt hx))) fun c4 => ?_
 exact Ev.ret ⟨fun _ => proof_bare e1 c4, fun _ => rfl⟩
/-! ### Weights come to something -/
section
variable {ι : Type} {κ : ι → Nat} {α ρ : Type}
abbrev Some (κ : ι → Nat) (f : ι → Option α) : Prop := Ev κ f fun _ => True
theorem some_ret {r : α} : Some κ (fun _ => some r) := Ev.ret trivial
theorem loopA {l : List α} (hf : l.length ≤ mx63) {E : ι → α → Int → (Int → Option Int) → Option Int} (hE : ∀ x ∈ l, ∀ (s : Int) (C : ι → Int → Option Int), (∀ t, Some κ (fun k => C k t)) → Some κ (fun k => E k x s (C k))) {s0 : Int} :
  Some κ (fun k => Iso.iter (S := Int × Int) (R := Int) (κ k) (fun again q => if (decide (q.2 < (l.length : Int))) = true then (idx l q.2).bind fun x => E k x q.1 (fun t => again (t, IntKind.wrap .i64 (q.2 + (1 : Int)))) else some q.1) (s0, 0)) := by
 refine Ev.iter (fun s => ∃ i : Nat, s.2 = (i : Int) ∧ i ≤ l.length) (fun s => l.length - s.2.toNat) ?_ ⟨0, rfl, Nat.zero_le _⟩
 rintro ⟨s, z⟩ ⟨i, rfl, hi⟩ G hG
 refine Ev.ite (fun h => ?_) fun h => some_ret
 have hlt : i < l.length := by have := of_decide_eq_true h; simp only at this; omega
 refine Ev.op _ (idxG hlt) ?_
 refine Ev.congr 0 (fun k _ => by rw [w64s (show i < 9223372036854775807 by unfold mx63 at hf; omega)]) (hE _ (List.getElem_mem _) s (fun k t => G k (t, ((i + 1 : Nat) : Int))) fun t => hG _ ⟨i + 1, rfl, by omega⟩ (by simp only [Int.toNat_natCast]; omega))
end
theorem size_ev {n : NodeA} (h : FitN n) : Some id (fun K => r08_Size K n) := by
 unfold r08_Size
 refine Ev.iter (κ := id) (F := fun K self q => r08_Size_body K self q) FitN (fun q => SizeOf.sizeOf q) ?_ h
 intro n h G hG
 obtain ⟨f1, f2, f3, f4⟩ := h.get
 unfold r08_Size_body
 refine Ev.bind (loopA (κ := id) f3 (E := fun K x s c => (G K x).bind fun r => c (IntKind.wrap .i64 (s + r))) fun x hx s C hC => Ev.bind (hG x (f4 x hx) (kid_lt hx)) fun r _ => hC _) fun r _ => some_ret
theorem terms_ev {p : Api_PolyA} (h : FitP p) : Some id (fun K => law22_terms K p) := by
 unfold law22_terms
 refine Ev.bind (loopA (κ := id) h.1 (E := fun K x s c => (iter (S := Int × Int) (R := Int) K (fun again q => if (decide (q.2 < (x.exps.length : Int))) = true then (idx x.exps q.2).bind fun y => again (IntKind.wrap .i64 (q.1 + (IntKind.wrap .i64 ((4 : Int) * (if (if y > (0 : Int) then y else (0 : Int)) < (100 : Int) then (if y > (0 : Int) then y else (0 : Int)) else (100 : Int))))), IntKind.wrap .i64 (q.2 + (1 : Int))) else some q.1) (IntKind.wrap .i64 (s + (IntKind.wrap .i64 ((40 : Int) + (IntKind.wrap .i64 ((10 : Int) * (IntKind.wrap .i64 ((x.coef.num.length : Int) + (x.coef.den.length : Int)))))))), (0 : Int))).bind fun e => c e) fun x hx s C hC => ?_) fun r _ => some_ret
 exact Ev.bind (loopA (κ := id) (h.2 x hx).1 (E := fun K y s c => c (IntKind.wrap .i64 (s + (IntKind.wrap .i64 ((4 : Int) * (if (if y > (0 : Int) then y else (0 : Int)) < (100 : Int) then (if y > (0 : Int) then y else (0 : Int)) else (100 : Int))))))) fun y hy s C' hC' => hC' _) fun e _ => hC e
theorem wcerts_ev {c : Api_CertA} (h : FitC c) : Some id (fun K => law22_certs K c) := by
 unfold law22_certs
 refine Ev.iter (κ := id) (F := fun K self q => law22_certs_body K self q) FitC (fun q => SizeOf.sizeOf q) ?_ h
 intro c h G hG
 obtain ⟨a1, a2, a3, a4, a5, a6, a7, a8⟩ := h.get
 unfold law22_certs_body
 refine Ev.bind (loopA (κ := id) a1 (E := fun K x s c => c (IntKind.wrap .i64 (s + (IntKind.wrap .i64 ((1 : Int) + (IntKind.wrap .i64 ((4 : Int) * (IntKind.wrap .i64 ((x.num.length : Int) + (x.den.length : Int)))))))))) fun x hx s C hC => hC _) fun r _ => ?_
 refine Ev.bind (loopA (κ := id) a3 (E := fun K x s c => (law22_terms K x).bind fun r => c (IntKind.wrap .i64 (s + (IntKind.wrap .i64 ((1 : Int) + r))))) fun x hx s C hC => Ev.bind (terms_ev (a4 x hx)) fun r _ => hC _) fun r _ => ?_
 refine Ev.bind (loopA (κ := id) a5 (E := fun K x s c => (law22_terms K x.poly).bind fun r => c (IntKind.wrap .i64 (s + (IntKind.wrap .i64 ((IntKind.wrap .i64 ((1 : Int) + (IntKind.wrap .i64 ((4 : Int) * (IntKind.wrap .i64 ((x.weight.num.length : Int) + (x.weight.den.length : Int))))))) + r))))) fun x hx s C hC => Ev.bind (terms_ev (a6 x hx).2) fun r _ => hC _) fun r _ => ?_
 exact Ev.bind (loopA (κ := id) a7 (E := fun K x s c => (G K x).bind fun r => c (IntKind.wrap .i64 (s + (IntKind.wrap .i64 ((1 : Int) + r))))) fun x hx s C hC => Ev.bind (hG x (a8 x hx) (Api_CertA.kids_lt hx)) fun r _ => hC _) fun r _ => some_ret
theorem weight_ev {p : Api_ProofA} (h : FitF p) : Some id (fun K => law22_weight K p) := by
 unfold law22_weight
 refine Ev.iter (κ := id) (F := fun K self q => law22_weight_body K self q) FitF (fun q => SizeOf.sizeOf q) ?_ h
 intro p h G hG
 obtain ⟨a1, a2, a3, a4, a5, a6, a7, a8, a9⟩ := h.get
 unfold law22_weight_body
 refine Ev.bind (wcerts_ev a7) fun r _ => ?_
 refine Ev.bind (loopA (κ := id) a1 (E := fun K x s c => (r08_Size K x).bind fun r => c (IntKind.wrap .i64 (s + r))) fun x hx s C hC => Ev.bind (size_ev (a2 x hx)) fun r _ => hC _) fun r _ => ?_
 refine Ev.bind (loopA (κ := id) a3 (E := fun K x s c => (r08_Size K x.what).bind fun r19 => (r08_Size K x.with_).bind fun r21 => (iter (S := Int × Int) (R := Int) K (fun again q => if (decide (q.2 < (x.rates.length : Int))) = true then (idx x.rates q.2).bind fun y => (r08_Size K y).bind fun r => again (IntKind.wrap .i64 (q.1 + r), IntKind.wrap .i64 (q.2 + (1 : Int))) else some q.1) (IntKind.wrap .i64 (s + (IntKind.wrap .i64 (r19 + r21))), (0 : Int))).bind fun e => c e) fun x hx s C hC => ?_) fun r _ => ?_
 ·obtain ⟨g1, g2, g3, g4⟩ := a4 x hx
  refine Ev.bind (size_ev g1) fun r19 _ => Ev.bind (size_ev g2) fun r21 _ => Ev.bind (loopA (κ := id) g3 (E := fun K y s c => (r08_Size K y).bind fun r => c (IntKind.wrap .i64 (s + r))) fun y hy s C' hC' => Ev.bind (size_ev (g4 y hy)) fun r _ => hC' _) fun e _ => hC e
 ·exact Ev.bind (loopA (κ := id) a8 (E := fun K x s c => (G K x).bind fun r => c (IntKind.wrap .i64 (s + r))) fun x hx s C hC => Ev.bind (hG x (a9 x hx) (Api_ProofA.kids_lt hx)) fun r _ => hC _) fun r _ => some_ret
/-! ### The law -/
theorem equals_law {a b : Api_ProofA} (ha : FitF a) (hb : FitF b) : ∃ K, law22_ReplayEquals K a b = some true := by
 have h : Ev id (fun K => law22_ReplayEquals K a b) (fun r => r = true) := by
  unfold law22_ReplayEquals
  refine Ev.op true rfl ?_
  refine Ev.congr 0 (fun _ _ => rfl) ?_
  refine Ev.bind (weight_ev ha) fun r _ => Ev.ite (fun _ => Ev.ret rfl) fun _ => Ev.bind (weight_ev hb) fun q _ => Ev.ite (fun _ => Ev.ret rfl) fun _ => Ev.bind (equal_ev ha hb) fun x hx => Ev.bind (same_ev ha hb) fun y hy => Ev.ret ?_
  rw [beq_iff_eq, Bool.eq_iff_iff, hx, hy]
 obtain ⟨k, r, rfl, h⟩ := h
 exact ⟨k, h k (Nat.le_refl _)⟩
end Go.Proofs.YtnhfojbokhgbhaaDoor
namespace Go.Proofs.YtnhfojbokhgbhaaDoor
open Go Go.Iso Go.Proofs Go.RowKit Go.ChangeShapes Go.WideShapes Go.ChangeAt
set_option linter.unusedVariables false
set_option linter.unusedSimpArgs false
set_option maxRecDepth 100000
/-! ### Trees as they are read -/
theorem u32_wf {z : Int} (h : (Lit.int .u32 z).wf = true) : 0 ≤ z ∧ z < 4294967296 := by
 simp [Lit.wf, IntKind.min, IntKind.max, IntKind.signed, IntKind.bits] at h; omega
theorem words_rep {H : Type} {enc : TypeId × Value → H} {W : World} {fuel : Nat} {cs : List Value} {x : DataW H × List MemPlace} (h : DataW.trod enc Tryd.prog W 0 (fun _ => true) true fuel 53 cs = some x) :
  ∃ (l : List Int) (c : Value), cs = [c] ∧ RepD (there W) W (slD u32V l) c ∧ ∀ z ∈ l, 0 ≤ z ∧ z < 4294967296 := by
 obtain ⟨l, c, h1, h2, h3⟩ := slice_rep u32V (s := 1) Tryd.underlying53 (by kernel_rfl) (by omega) (fun _ => rfl) (fun z _ => 0 ≤ z ∧ z < 4294967296) (fun n cs' y _ hy => by
  obtain ⟨z, h1, h2⟩ := int_cell Tryd.underlying106 hy
  exact ⟨z, h1, u32_wf h2⟩) h
 refine ⟨l, c, h1, h2, fun z hz => ?_⟩
 rcases h3 with ⟨_, rfl⟩ | ⟨ys, rest, _, hl, hq⟩
 ·cases hz
 ·obtain ⟨i, hi, rfl⟩ := List.mem_iff_getElem.1 hz
  exact hq i hi (by omega)
theorem rat_rep {H : Type} {enc : TypeId × Value → H} {W : World} {fuel : Nat} {cs : List Value} {x : DataW H × List MemPlace} (h : DataW.trod enc Tryd.prog W 0 (fun _ => true) true fuel 55 cs = some x) :
  ∃ r : RatA, RowRep W r.enc cs ∧ r.words := by
 obtain ⟨y0, y1, y2, n, rfl, hl, h0, h1, h2⟩ := Go.Deep.trod_struct3 Tryd.underlying55 h
 have hc : Tryd.prog.cellsOf 55 = 3 := by kernel_rfl
 have hc4 : Tryd.prog.cellsOf 4 = 1 := by kernel_rfl
 have hc36 : Tryd.prog.cellsOf 53 = 1 := by kernel_rfl
 rw [hc] at hl
 match cs, hl with
 | [u, v, w], _ =>
  simp only [hc4, hc36, List.drop_zero, List.take_succ_cons, List.take_zero, List.drop_succ_cons] at h0 h1 h2
  obtain ⟨b, e0, _⟩ := DataW.trod_bool Tryd.underlying4 h0
  obtain ⟨l1, c1, e1, r1, w1⟩ := words_rep h1
  obtain ⟨l2, c2, e2, r2, w2⟩ := words_rep h2
  cases e0; cases e1; cases e2
  refine ⟨⟨b, l1, l2⟩, ⟨rfl, fun j hj => ?_⟩, w1, w2⟩
  match j, hj with
  | 0, _ => exact .val _ rfl
  | 1, _ => exact r1
  | 2, _ => exact r2
theorem bulk_slice {H : Type} {ys rest : List (DataW H)} : Rows.uptoBulk (.slice ys rest) = Rows.uptoBulkAll ys + Rows.uptoBulkAll rest + 1 := by rw [Rows.uptoBulk]
theorem bulk_ge {H : Type} : ∀ {l : List NodeA} {ys : List (DataW H)}, l.length = ys.length → (∀ i (h1 : i < l.length) (h2 : i < ys.length), l[i].size ≤ Rows.uptoBulk ys[i]) → (l.map NodeA.size).sum ≤ Rows.uptoBulkAll ys
 | [], _, _, _ => by simp
 | x :: l, [], h, _ => by simp at h
 | x :: l, y :: ys, h, hq => by
  have h0 := hq 0 (by simp) (by simp)
  have := bulk_ge (l := l) (ys := ys) (by simpa using h) fun i h1 h2 => by
   have := hq (i + 1) (by simpa using h1) (by simpa using h2); simpa using this
  rw [Rows.uptoBulkAll, List.map_cons, List.sum_cons]
  simp at h0; omega
theorem node_row {H : Type} {enc : TypeId × Value → H} {W : World} : ∀ (fuel : Nat) (cs : List Value) (x : DataW H × List MemPlace), DataW.trod enc Tryd.prog W 0 (fun _ => true) true fuel 57 cs = some x →
  ∃ n : NodeA, RowRep W n.enc cs ∧ n.words ∧ n.size ≤ Rows.uptoBulk x.1 := by
 intro fuel
 induction fuel using Nat.strongRecOn with
 | _ fuel ih =>
  intro cs x h
  obtain ⟨xs, n, hfu, rfl, hl, hlen, hfs⟩ := DataW.trod_struct Tryd.underlying57 h
  have hc : Tryd.prog.cellsOf 57 = 6 := by kernel_rfl
  have hc1 : Tryd.prog.cellsOf 3 = 1 := by kernel_rfl
  have hc2 : Tryd.prog.cellsOf 9 = 1 := by kernel_rfl
  have hc3 : Tryd.prog.cellsOf 55 = 3 := by kernel_rfl
  have hc4 : Tryd.prog.cellsOf 22 = 1 := by kernel_rfl
  rw [hc] at hl
  match xs, hlen with
  | [y0, y1, y2, y3], _ =>
  match cs, hl with
  | [u0, u1, u2, u3, u4, u5], _ =>
   have h0 := hfs 0 _ rfl
   have h1 := hfs 1 _ rfl
   have h2 := hfs 2 _ rfl
   have h3 := hfs 3 _ rfl
   simp only [hc1, hc2, hc3, hc4, List.drop_zero, List.take_succ_cons, List.take_zero, List.drop_succ_cons, List.getElem?_cons_zero, List.getElem?_cons_succ] at h0 h1 h2 h3
   obtain ⟨z, e0, _, _⟩ := DataW.trod_int Tryd.underlying3 h0
   obtain ⟨s, e1, _, hs⟩ := DataW.trod_string Tryd.underlying9 h1
   obtain ⟨r, r2, w2⟩ := rat_rep h2
   obtain ⟨l, c, e3, r3, q3⟩ := slice_rep NodeA.enc (s := 6) Tryd.underlying22 (by kernel_rfl) (by omega) NodeA.enc_len (fun k y => k.words ∧ k.size ≤ Rows.uptoBulk y) (fun m cs' y hm hy => ih m (by omega) cs' y hy) h3
   cases e0; cases e1; cases e3
   refine ⟨.mk z s r l, ⟨by rw [NodeA.enc_mk]; rfl, fun j hj => ?_⟩, ?_, ?_⟩
   ·have hr := r2.2
    have e : (NodeA.mk z s r l).enc = [.val (.int .i64 z), .val (.string s), .val (.bool r.neg), slD u32V r.num, slD u32V r.den, slD NodeA.enc l] := NodeA.enc_mk
    have hj6 : j < 6 := by rw [e] at hj; exact hj
    have key : ∀ (ds : List D), ds = (NodeA.mk z s r l).enc → ∀ hj : j < ds.length, RepD (there W) W ds[j] ([Value.int .i64 z, .string s, u2, u3, u4, u5].getD j undef) := by
     intro ds hd hj
     rw [e] at hd; subst hd
     match j, hj6 with
     | 0, _ => exact .val _ rfl
     | 1, _ => exact .val _ (by rw [maxLen_eq] at hs; simpa [okVal] using hs)
     | 2, _ => exact hr 0 (by simp [RatA.enc])
     | 3, _ => exact hr 1 (by simp [RatA.enc])
     | 4, _ => exact hr 2 (by simp [RatA.enc])
     | 5, _ => exact r3
    exact key _ rfl hj
   ·rw [NodeA.words_mk]
    refine ⟨w2, fun k hk => ?_⟩
    rcases q3 with ⟨_, rfl⟩ | ⟨ys, rest, _, hl3, hq⟩
    ·cases hk
    ·obtain ⟨i, hi, rfl⟩ := List.mem_iff_getElem.1 hk
     exact (hq i hi (by omega)).1
   ·rw [NodeA.size_mk]
    simp only [List.map_cons, List.map_nil]
    rw [Rows.uptoBulk]
    simp only [Rows.uptoBulkAll]
    rcases q3 with ⟨_, rfl⟩ | ⟨ys, rest, e4, hl3, hq⟩
    ·simp
    ·have := bulk_ge hl3 fun i h1 h2 => (hq i h1 h2).2
     rw [e4, bulk_slice]; omega
end Go.Proofs.YtnhfojbokhgbhaaDoor
namespace Go.Proofs.YtnhfojbokhgbhaaDoor
open Go Go.Iso Go.Proofs Go.RowKit Go.ChangeShapes Go.WideShapes Go.ChangeAt
set_option linter.unusedVariables false
set_option linter.unusedSimpArgs false
set_option maxRecDepth 100000
theorem str_cell {H : Type} {enc : TypeId × Value → H} {W : World} {fuel : Nat} {cs : List Value} {x : DataW H × List MemPlace} (h : DataW.trod enc Tryd.prog W 0 (fun _ => true) true fuel 9 cs = some x) : ∃ s : ByteArray, RowRep W (strV s) cs := by
 obtain ⟨s, rfl, _, g⟩ := DataW.trod_string Tryd.underlying9 h
 refine ⟨s, rfl, fun j hj => ?_⟩
 have : j = 0 := by simp [strV] at hj; omega
 subst this
 exact .val _ (by rw [maxLen_eq] at g; simpa [okVal] using g)
theorem mono_row {H : Type} {enc : TypeId × Value → H} {W : World} : ∀ (fuel : Nat) (cs : List Value) (x : DataW H × List MemPlace), DataW.trod enc Tryd.prog W 0 (fun _ => true) true fuel 91 cs = some x → ∃ v : Api_MonoA, RowRep W v.enc cs := by
 intro fuel
 intro cs x h
 obtain ⟨xs, n, hfu, rfl, hl, hlen, hfs⟩ := DataW.trod_struct Tryd.underlying91 h
 have hc : Tryd.prog.cellsOf 91 = 4 := by kernel_rfl
 have hc0 : Tryd.prog.cellsOf 24 = 1 := by kernel_rfl
 have hc1 : Tryd.prog.cellsOf 55 = 3 := by kernel_rfl
 rw [hc] at hl
 match xs, hlen with
 | [y0, y1], _ =>
 match cs, hl with
 | [u0, u1, u2, u3], _ =>
  have h0 := hfs 0 _ rfl
  have h1 := hfs 1 _ rfl
  simp only [hc0, hc1, List.drop_zero, List.take_succ_cons, List.take_zero, List.drop_succ_cons, List.getElem?_cons_zero, List.getElem?_cons_succ] at h0 h1
  obtain ⟨l0, c0, e0, r0, _⟩ := slice_rep i64V (s := 1) Tryd.underlying24 (by kernel_rfl) (by omega) (fun _ => rfl) (fun _ _ => True) (fun m cs' y _ hy => (int_cell Tryd.underlying3 hy).elim fun a ha => ⟨a, ha.1, trivial⟩) h0
  cases e0
  obtain ⟨v1, r1, _⟩ := rat_rep h1
  have k1 := r1.2
  simp only [RatA.enc_eta] at k1
  have e : ((Api_MonoA.mk l0 v1) : Api_MonoA).enc = [slD i64V l0, .val (.bool v1.neg), slD u32V v1.num, slD u32V v1.den] := by rw [Api_MonoA.enc_eta] <;> rfl
  refine ⟨(Api_MonoA.mk l0 v1), by rw [e]; rfl, fun j hj => ?_⟩
  have hjn : j < 4 := by rw [e] at hj; exact hj
  have key : ∀ (ds : List D), ds = ((Api_MonoA.mk l0 v1) : Api_MonoA).enc → ∀ hj : j < ds.length, RepD (there W) W ds[j] ([u0, u1, u2, u3].getD j undef) := by
   intro ds hd hj
   rw [e] at hd; subst hd
   match j, hjn with
   | 0, _ => exact r0
   | 1, _ => exact k1 0 (by simp)
   | 2, _ => exact k1 1 (by simp)
   | 3, _ => exact k1 2 (by simp)
  exact key _ rfl hj
theorem poly_row {H : Type} {enc : TypeId × Value → H} {W : World} : ∀ (fuel : Nat) (cs : List Value) (x : DataW H × List MemPlace), DataW.trod enc Tryd.prog W 0 (fun _ => true) true fuel 78 cs = some x → ∃ v : Api_PolyA, RowRep W v.enc cs := by
 intro fuel
 intro cs x h
 obtain ⟨xs, n, hfu, rfl, hl, hlen, hfs⟩ := DataW.trod_struct Tryd.underlying78 h
 have hc : Tryd.prog.cellsOf 78 = 2 := by kernel_rfl
 have hc0 : Tryd.prog.cellsOf 3 = 1 := by kernel_rfl
 have hc1 : Tryd.prog.cellsOf 76 = 1 := by kernel_rfl
 rw [hc] at hl
 match xs, hlen with
 | [y0, y1], _ =>
 match cs, hl with
 | [u0, u1], _ =>
  have h0 := hfs 0 _ rfl
  have h1 := hfs 1 _ rfl
  simp only [hc0, hc1, List.drop_zero, List.take_succ_cons, List.take_zero, List.drop_succ_cons, List.getElem?_cons_zero, List.getElem?_cons_succ] at h0 h1
  obtain ⟨z0, e0, _, _⟩ := DataW.trod_int Tryd.underlying3 h0
  cases e0
  obtain ⟨l1, c1, e1, r1, _⟩ := slice_rep Api_MonoA.enc (s := 4) Tryd.underlying76 (by kernel_rfl) (by omega) (fun p => by rw [Api_MonoA.enc_eta] <;> rfl) (fun _ _ => True) (fun m cs' y _ hy => (mono_row m cs' y hy).elim fun a ha => ⟨a, ha, trivial⟩) h1
  cases e1
  have e : ((Api_PolyA.mk z0 l1) : Api_PolyA).enc = [.val (.int .i64 z0), slD Api_MonoA.enc l1] := by rw [Api_PolyA.enc_eta] <;> rfl
  refine ⟨(Api_PolyA.mk z0 l1), by rw [e]; rfl, fun j hj => ?_⟩
  have hjn : j < 2 := by rw [e] at hj; exact hj
  have key : ∀ (ds : List D), ds = ((Api_PolyA.mk z0 l1) : Api_PolyA).enc → ∀ hj : j < ds.length, RepD (there W) W ds[j] ([Value.int .i64 z0, u1].getD j undef) := by
   intro ds hd hj
   rw [e] at hd; subst hd
   match j, hjn with
   | 0, _ => exact .val _ rfl
   | 1, _ => exact r1
  exact key _ rfl hj
theorem square_row {H : Type} {enc : TypeId × Value → H} {W : World} : ∀ (fuel : Nat) (cs : List Value) (x : DataW H × List MemPlace), DataW.trod enc Tryd.prog W 0 (fun _ => true) true fuel 80 cs = some x → ∃ v : Api_SquareA, RowRep W v.enc cs := by
 intro fuel
 intro cs x h
 obtain ⟨xs, n, hfu, rfl, hl, hlen, hfs⟩ := DataW.trod_struct Tryd.underlying80 h
 have hc : Tryd.prog.cellsOf 80 = 5 := by kernel_rfl
 have hc0 : Tryd.prog.cellsOf 55 = 3 := by kernel_rfl
 have hc1 : Tryd.prog.cellsOf 78 = 2 := by kernel_rfl
 rw [hc] at hl
 match xs, hlen with
 | [y0, y1], _ =>
 match cs, hl with
 | [u0, u1, u2, u3, u4], _ =>
  have h0 := hfs 0 _ rfl
  have h1 := hfs 1 _ rfl
  simp only [hc0, hc1, List.drop_zero, List.take_succ_cons, List.take_zero, List.drop_succ_cons, List.getElem?_cons_zero, List.getElem?_cons_succ] at h0 h1
  obtain ⟨v0, r0, _⟩ := rat_rep h0
  have k0 := r0.2
  simp only [RatA.enc_eta] at k0
  obtain ⟨v1, r1⟩ := poly_row _ _ _ h1
  have k1 := r1.2
  simp only [Api_PolyA.enc_eta] at k1
  have e : ((Api_SquareA.mk v0 v1) : Api_SquareA).enc = [.val (.bool v0.neg), slD u32V v0.num, slD u32V v0.den, .val (.int .i64 v1.n), slD Api_MonoA.enc v1.terms] := by rw [Api_SquareA.enc_eta] <;> rfl
  refine ⟨(Api_SquareA.mk v0 v1), by rw [e]; rfl, fun j hj => ?_⟩
  have hjn : j < 5 := by rw [e] at hj; exact hj
  have key : ∀ (ds : List D), ds = ((Api_SquareA.mk v0 v1) : Api_SquareA).enc → ∀ hj : j < ds.length, RepD (there W) W ds[j] ([u0, u1, u2, u3, u4].getD j undef) := by
   intro ds hd hj
   rw [e] at hd; subst hd
   match j, hjn with
   | 0, _ => exact k0 0 (by simp)
   | 1, _ => exact k0 1 (by simp)
   | 2, _ => exact k0 2 (by simp)
   | 3, _ => exact k1 0 (by simp)
   | 4, _ => exact k1 1 (by simp)
  exact key _ rfl hj
theorem cert_row {H : Type} {enc : TypeId × Value → H} {W : World} : ∀ (fuel : Nat) (cs : List Value) (x : DataW H × List MemPlace), DataW.trod enc Tryd.prog W 0 (fun _ => true) true fuel 31 cs = some x → ∃ v : Api_CertA, RowRep W v.enc cs := by
 intro fuel
 induction fuel using Nat.strongRecOn with
 | _ fuel ih =>
  intro cs x h
  obtain ⟨xs, n, hfu, rfl, hl, hlen, hfs⟩ := DataW.trod_struct Tryd.underlying31 h
  have hc : Tryd.prog.cellsOf 31 = 5 := by kernel_rfl
  have hc0 : Tryd.prog.cellsOf 3 = 1 := by kernel_rfl
  have hc1 : Tryd.prog.cellsOf 26 = 1 := by kernel_rfl
  have hc2 : Tryd.prog.cellsOf 27 = 1 := by kernel_rfl
  have hc3 : Tryd.prog.cellsOf 28 = 1 := by kernel_rfl
  have hc4 : Tryd.prog.cellsOf 29 = 1 := by kernel_rfl
  rw [hc] at hl
  match xs, hlen with
  | [y0, y1, y2, y3, y4], _ =>
  match cs, hl with
  | [u0, u1, u2, u3, u4], _ =>
   have h0 := hfs 0 _ rfl
   have h1 := hfs 1 _ rfl
   have h2 := hfs 2 _ rfl
   have h3 := hfs 3 _ rfl
   have h4 := hfs 4 _ rfl
   simp only [hc0, hc1, hc2, hc3, hc4, List.drop_zero, List.take_succ_cons, List.take_zero, List.drop_succ_cons, List.getElem?_cons_zero, List.getElem?_cons_succ] at h0 h1 h2 h3 h4
   obtain ⟨z0, e0, _, _⟩ := DataW.trod_int Tryd.underlying3 h0
   cases e0
   obtain ⟨l1, c1, e1, r1, _⟩ := slice_rep RatA.enc (s := 3) Tryd.underlying26 (by kernel_rfl) (by omega) (fun _ => rfl) (fun _ _ => True) (fun m cs' y _ hy => (rat_rep hy).elim fun a ha => ⟨a, ha.1, trivial⟩) h1
   cases e1
   obtain ⟨l2, c2, e2, r2, _⟩ := slice_rep Api_PolyA.enc (s := 2) Tryd.underlying27 (by kernel_rfl) (by omega) (fun p => by rw [Api_PolyA.enc_eta] <;> rfl) (fun _ _ => True) (fun m cs' y _ hy => (poly_row m cs' y hy).elim fun a ha => ⟨a, ha, trivial⟩) h2
   cases e2
   obtain ⟨l3, c3, e3, r3, _⟩ := slice_rep Api_SquareA.enc (s := 5) Tryd.underlying28 (by kernel_rfl) (by omega) (fun p => by rw [Api_SquareA.enc_eta] <;> rfl) (fun _ _ => True) (fun m cs' y _ hy => (square_row m cs' y hy).elim fun a ha => ⟨a, ha, trivial⟩) h3
   cases e3
   obtain ⟨l4, c4, e4, r4, _⟩ := slice_rep Api_CertA.enc (s := 5) Tryd.underlying29 (by kernel_rfl) (by omega) (fun p => by rw [Api_CertA.enc_eta] <;> rfl) (fun _ _ => True) (fun m cs' y hm hy => (ih m (by omega) cs' y hy).elim fun a ha => ⟨a, ha, trivial⟩) h4
   cases e4
   have e : ((Api_CertA.mk z0 l1 l2 l3 l4) : Api_CertA).enc = [.val (.int .i64 z0), slD RatA.enc l1, slD Api_PolyA.enc l2, slD Api_SquareA.enc l3, slD Api_CertA.enc l4] := by rw [Api_CertA.enc_eta] <;> rfl
   refine ⟨(Api_CertA.mk z0 l1 l2 l3 l4), by rw [e]; rfl, fun j hj => ?_⟩
   have hjn : j < 5 := by rw [e] at hj; exact hj
   have key : ∀ (ds : List D), ds = ((Api_CertA.mk z0 l1 l2 l3 l4) : Api_CertA).enc → ∀ hj : j < ds.length, RepD (there W) W ds[j] ([Value.int .i64 z0, u1, u2, u3, u4].getD j undef) := by
    intro ds hd hj
    rw [e] at hd; subst hd
    match j, hjn with
    | 0, _ => exact .val _ rfl
    | 1, _ => exact r1
    | 2, _ => exact r2
    | 3, _ => exact r3
    | 4, _ => exact r4
   exact key _ rfl hj
theorem pair_row {H : Type} {enc : TypeId × Value → H} {W : World} : ∀ (fuel : Nat) (cs : List Value) (x : DataW H × List MemPlace), DataW.trod enc Tryd.prog W 0 (fun _ => true) true fuel 59 cs = some x → ∃ v : Api_PairA, RowRep W v.enc cs := by
 intro fuel
 intro cs x h
 obtain ⟨xs, n, hfu, rfl, hl, hlen, hfs⟩ := DataW.trod_struct Tryd.underlying59 h
 have hc : Tryd.prog.cellsOf 59 = 13 := by kernel_rfl
 have hc0 : Tryd.prog.cellsOf 57 = 6 := by kernel_rfl
 have hc1 : Tryd.prog.cellsOf 22 = 1 := by kernel_rfl
 rw [hc] at hl
 match xs, hlen with
 | [y0, y1, y2], _ =>
 match cs, hl with
 | [u0, u1, u2, u3, u4, u5, u6, u7, u8, u9, u10, u11, u12], _ =>
  have h0 := hfs 0 _ rfl
  have h1 := hfs 1 _ rfl
  have h2 := hfs 2 _ rfl
  simp only [hc0, hc1, List.drop_zero, List.take_succ_cons, List.take_zero, List.drop_succ_cons, List.getElem?_cons_zero, List.getElem?_cons_succ] at h0 h1 h2
  obtain ⟨v0, r0, _⟩ := node_row _ _ _ h0
  have k0 := r0.2
  simp only [NodeA.enc_eta] at k0
  obtain ⟨v1, r1, _⟩ := node_row _ _ _ h1
  have k1 := r1.2
  simp only [NodeA.enc_eta] at k1
  obtain ⟨l2, c2, e2, r2, _⟩ := slice_rep NodeA.enc (s := 6) Tryd.underlying22 (by kernel_rfl) (by omega) NodeA.enc_len (fun _ _ => True) (fun m cs' y _ hy => (node_row m cs' y hy).elim fun a ha => ⟨a, ha.1, trivial⟩) h2
  cases e2
  have e : ((Api_PairA.mk v0 v1 l2) : Api_PairA).enc = [.val (.int .i64 v0.op), .val (.string v0.name), .val (.bool v0.num.neg), slD u32V v0.num.num, slD u32V v0.num.den, slD NodeA.enc v0.kids, .val (.int .i64 v1.op), .val (.string v1.name), .val (.bool v1.num.neg), slD u32V v1.num.num, slD u32V v1.num.den, slD NodeA.enc v1.kids, slD NodeA.enc l2] := by rw [Api_PairA.enc_eta] <;> rfl
  refine ⟨(Api_PairA.mk v0 v1 l2), by rw [e]; rfl, fun j hj => ?_⟩
  have hjn : j < 13 := by rw [e] at hj; exact hj
  have key : ∀ (ds : List D), ds = ((Api_PairA.mk v0 v1 l2) : Api_PairA).enc → ∀ hj : j < ds.length, RepD (there W) W ds[j] ([u0, u1, u2, u3, u4, u5, u6, u7, u8, u9, u10, u11, u12].getD j undef) := by
   intro ds hd hj
   rw [e] at hd; subst hd
   match j, hjn with
   | 0, _ => exact k0 0 (by simp)
   | 1, _ => exact k0 1 (by simp)
   | 2, _ => exact k0 2 (by simp)
   | 3, _ => exact k0 3 (by simp)
   | 4, _ => exact k0 4 (by simp)
   | 5, _ => exact k0 5 (by simp)
   | 6, _ => exact k1 0 (by simp)
   | 7, _ => exact k1 1 (by simp)
   | 8, _ => exact k1 2 (by simp)
   | 9, _ => exact k1 3 (by simp)
   | 10, _ => exact k1 4 (by simp)
   | 11, _ => exact k1 5 (by simp)
   | 12, _ => exact r2
  exact key _ rfl hj
theorem proof_row {H : Type} {enc : TypeId × Value → H} {W : World} : ∀ (fuel : Nat) (cs : List Value) (x : DataW H × List MemPlace), DataW.trod enc Tryd.prog W 0 (fun _ => true) true fuel 34 cs = some x → ∃ v : Api_ProofA, RowRep W v.enc cs := by
 intro fuel
 induction fuel using Nat.strongRecOn with
 | _ fuel ih =>
  intro cs x h
  obtain ⟨xs, n, hfu, rfl, hl, hlen, hfs⟩ := DataW.trod_struct Tryd.underlying34 h
  have hc : Tryd.prog.cellsOf 34 = 12 := by kernel_rfl
  have hc0 : Tryd.prog.cellsOf 9 = 1 := by kernel_rfl
  have hc1 : Tryd.prog.cellsOf 22 = 1 := by kernel_rfl
  have hc2 : Tryd.prog.cellsOf 23 = 1 := by kernel_rfl
  have hc3 : Tryd.prog.cellsOf 24 = 1 := by kernel_rfl
  have hc4 : Tryd.prog.cellsOf 25 = 1 := by kernel_rfl
  have hc5 : Tryd.prog.cellsOf 31 = 5 := by kernel_rfl
  have hc6 : Tryd.prog.cellsOf 32 = 1 := by kernel_rfl
  rw [hc] at hl
  match xs, hlen with
  | [y0, y1, y2, y3, y4, y5, y6, y7], _ =>
  match cs, hl with
  | [u0, u1, u2, u3, u4, u5, u6, u7, u8, u9, u10, u11], _ =>
   have h0 := hfs 0 _ rfl
   have h1 := hfs 1 _ rfl
   have h2 := hfs 2 _ rfl
   have h3 := hfs 3 _ rfl
   have h4 := hfs 4 _ rfl
   have h5 := hfs 5 _ rfl
   have h6 := hfs 6 _ rfl
   have h7 := hfs 7 _ rfl
   simp only [hc0, hc1, hc2, hc3, hc4, hc5, hc6, List.drop_zero, List.take_succ_cons, List.take_zero, List.drop_succ_cons, List.getElem?_cons_zero, List.getElem?_cons_succ] at h0 h1 h2 h3 h4 h5 h6 h7
   obtain ⟨s0, e0, _, g0⟩ := DataW.trod_string Tryd.underlying9 h0
   cases e0
   obtain ⟨s1, e1, _, g1⟩ := DataW.trod_string Tryd.underlying9 h1
   cases e1
   obtain ⟨l2, c2, e2, r2, _⟩ := slice_rep NodeA.enc (s := 6) Tryd.underlying22 (by kernel_rfl) (by omega) NodeA.enc_len (fun _ _ => True) (fun m cs' y _ hy => (node_row m cs' y hy).elim fun a ha => ⟨a, ha.1, trivial⟩) h2
   cases e2
   obtain ⟨l3, c3, e3, r3, _⟩ := slice_rep Api_PairA.enc (s := 13) Tryd.underlying23 (by kernel_rfl) (by omega) (fun p => by rw [Api_PairA.enc_eta] <;> rfl) (fun _ _ => True) (fun m cs' y _ hy => (pair_row m cs' y hy).elim fun a ha => ⟨a, ha, trivial⟩) h3
   cases e3
   obtain ⟨l4, c4, e4, r4, _⟩ := slice_rep i64V (s := 1) Tryd.underlying24 (by kernel_rfl) (by omega) (fun _ => rfl) (fun _ _ => True) (fun m cs' y _ hy => (int_cell Tryd.underlying3 hy).elim fun a ha => ⟨a, ha.1, trivial⟩) h4
   cases e4
   obtain ⟨l5, c5, e5, r5, _⟩ := slice_rep strV (s := 1) Tryd.underlying25 (by kernel_rfl) (by omega) (fun _ => rfl) (fun _ _ => True) (fun m cs' y _ hy => (str_cell hy).elim fun a ha => ⟨a, ha, trivial⟩) h5
   cases e5
   obtain ⟨v6, r6⟩ := cert_row _ _ _ h6
   have k6 := r6.2
   simp only [Api_CertA.enc_eta] at k6
   obtain ⟨l7, c7, e7, r7, _⟩ := slice_rep Api_ProofA.enc (s := 12) Tryd.underlying32 (by kernel_rfl) (by omega) (fun p => by rw [Api_ProofA.enc_eta] <;> rfl) (fun _ _ => True) (fun m cs' y hm hy => (ih m (by omega) cs' y hy).elim fun a ha => ⟨a, ha, trivial⟩) h7
   cases e7
   have e : ((Api_ProofA.mk s0 s1 l2 l3 l4 l5 v6 l7) : Api_ProofA).enc = [.val (.string s0), .val (.string s1), slD NodeA.enc l2, slD Api_PairA.enc l3, slD i64V l4, slD strV l5, .val (.int .i64 v6.kind), slD RatA.enc v6.nums, slD Api_PolyA.enc v6.polys, slD Api_SquareA.enc v6.squares, slD Api_CertA.enc v6.kids, slD Api_ProofA.enc l7] := by rw [Api_ProofA.enc_eta] <;> rfl
   refine ⟨(Api_ProofA.mk s0 s1 l2 l3 l4 l5 v6 l7), by rw [e]; rfl, fun j hj => ?_⟩
   have hjn : j < 12 := by rw [e] at hj; exact hj
   have key : ∀ (ds : List D), ds = ((Api_ProofA.mk s0 s1 l2 l3 l4 l5 v6 l7) : Api_ProofA).enc → ∀ hj : j < ds.length, RepD (there W) W ds[j] ([Value.string s0, Value.string s1, u2, u3, u4, u5, u6, u7, u8, u9, u10, u11].getD j undef) := by
    intro ds hd hj
    rw [e] at hd; subst hd
    match j, hjn with
    | 0, _ => exact .val _ (by rw [maxLen_eq] at g0; simpa [okVal] using g0)
    | 1, _ => exact .val _ (by rw [maxLen_eq] at g1; simpa [okVal] using g1)
    | 2, _ => exact r2
    | 3, _ => exact r3
    | 4, _ => exact r4
    | 5, _ => exact r5
    | 6, _ => exact k6 0 (by simp)
    | 7, _ => exact k6 1 (by simp)
    | 8, _ => exact k6 2 (by simp)
    | 9, _ => exact k6 3 (by simp)
    | 10, _ => exact k6 4 (by simp)
    | 11, _ => exact r7
   exact key _ rfl hj
theorem proof_rep {H : Type} {enc : TypeId × Value → H} {W : World} {base : Nat} {v : Value} {d : DataW H} {ps : List MemPlace} (hval : Value.okWide Tryd.prog W .any base 34 v) (h : DataW.Trod enc Tryd.prog W 0 (fun _ => true) true 34 v d ps) :
  ∃ n : Api_ProofA, RepV (fun _ => none) (there W) W (aggV n.enc) v ∧ FitF n := by
 obtain ⟨cs, rfl, hs⟩ := okWide_struct Tryd.underlying34 hval
 obtain ⟨fuel, hf⟩ := h
 obtain ⟨n, h1⟩ := proof_row fuel _ _ hf
 obtain ⟨cs⟩ := cs
 refine ⟨n, .agg (by have := h1.1; simp only [Value.cells] at this; simp [this]) fun i hi => ?_, D.fitL_of fun j hj => (h1.2 j hj).fit⟩
 have := h1.2 i (by simpa using hi)
 simp only [Value.cells] at this
 rw [List.getElem_map]
 refine .d ?_
 simpa [Array.getD_eq_getD_getElem?, List.getD_eq_getElem?_getD] using this
end Go.Proofs.YtnhfojbokhgbhaaDoor
