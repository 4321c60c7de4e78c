/- Part of the proof of a law: contracts of the functions that the law reaches, or plain laws of them, out of the abstract layer (the texts YtngmfimpaembnaaGreatDoorIso..). No condition. -/
import Derived.Test.YtngmfimpaembnaaGreatDoorLrefsets
import Derived.Test.YtngmfimpaembnaaGreatDoorPd
import Derived.KernelRfl
namespace Go.Proofs.YtngmfimpaembnaaGreatDoor
open Go Go.Iso Go.Proofs
set_option linter.unusedSimpArgs false
set_option linter.unusedVariables false
set_option maxRecDepth 100000
theorem att_map {α : Type} {f : NodeA → α} {ks : List NodeA} : (ks.attach.map fun x => match x with | ⟨k, _⟩ => f k) = ks.map f := by simp
/-! ### The reference's free, bound and must-bound variables, as functions -/
abbrev nthS (L : List Api_NamesA) (i : Nat) : Api_NamesA := L.getD i noneS
def tickB (v : ByteArray) : Bool := v[v.size - 1]? == some 39
def primF (o : Api_NamesA) (v : ByteArray) : Api_NamesA := if tickB v then o else unionS o (oneS (v ++ tick))
def prmS (s : Api_NamesA) : Api_NamesA := s.list.foldl primF s
def flowM (s : Api_NamesA) (k : NodeA) : Api_NamesA := if k.op == 55 then unionS s (unionS (oneS k.name) (oneS (k.name ++ tick))) else s
def mustB (op : Int) (m : ByteArray) (ks : List NodeA) (L : List Api_NamesA) : Api_NamesA :=
  if op = 50 ∨ op = 52 then oneS m else if op = 51 then oneS (m ++ tick) else if op = 54 then ks.foldl flowM noneS
  else if op = 57 then unionS (nthS L 0) (nthS L 1) else if op = 58 then meetS (nthS L 0) (nthS L 1) else if op = 60 then nthS L 0 else noneS
def mustS : NodeA → Api_NamesA
  | .mk op m _ ks => mustB op m ks (ks.attach.map fun ⟨k, _⟩ => mustS k)
termination_by n => SizeOf.sizeOf n
decreasing_by exact NodeA.size_kid (by assumption)
theorem mustS_eq (n : NodeA) : mustS n = mustB n.op n.name n.kids (n.kids.map mustS) := by cases n with | mk o m r ks => rw [mustS, att_map]; rfl
def freeB (op : Int) (m : ByteArray) (M L : List Api_NamesA) : Api_NamesA :=
  if op = 2 then oneS m else if op = 3 then oneS (m ++ tick) else if op = 11 ∨ op = 38 ∨ op = 61 ∨ op = 62 ∨ op = 56 then allS
  else if op = 12 ∨ op = 39 then (if (nthS L 0).all then allS else prmS (nthS L 0))
  else if op = 33 ∨ op = 34 then minusS (nthS L 0) (oneS m)
  else if op = 35 ∨ op = 36 ∨ op = 57 then unionS (nthS L 0) (minusS (nthS L 1) (nthS M 0))
  else if op = 55 then unionS (unL noneS L) (oneS m) else unL noneS L
def freeS : NodeA → Api_NamesA
  | .mk op m _ ks => freeB op m (ks.map mustS) (ks.attach.map fun ⟨k, _⟩ => freeS k)
termination_by n => SizeOf.sizeOf n
decreasing_by exact NodeA.size_kid (by assumption)
theorem freeS_eq (n : NodeA) : freeS n = freeB n.op n.name (n.kids.map mustS) (n.kids.map freeS) := by cases n with | mk o m r ks => rw [freeS, att_map]; rfl
def anyB (op : Int) (m : ByteArray) (L : List Api_NamesA) : Api_NamesA :=
  unL (if op = 50 ∨ op = 52 ∨ op = 33 ∨ op = 34 then oneS m else if op = 51 then oneS (m ++ tick) else if op = 55 then unionS (oneS m) (oneS (m ++ tick)) else if op = 56 ∨ op = 61 ∨ op = 62 then allS else noneS) L
def anyS : NodeA → Api_NamesA
  | .mk op m _ ks => anyB op m (ks.attach.map fun ⟨k, _⟩ => anyS k)
termination_by n => SizeOf.sizeOf n
decreasing_by exact NodeA.size_kid (by assumption)
theorem anyS_eq (n : NodeA) : anyS n = anyB n.op n.name (n.kids.map anyS) := by cases n with | mk o m r ks => rw [anyS, att_map]; rfl
def boundB (op : Int) (m : ByteArray) (W : Api_NamesA) (L : List Api_NamesA) : Api_NamesA :=
  if sortS op = 2 then W else if op = 55 then unionS (oneS m) (oneS (m ++ tick)) else if op = 56 ∨ op = 61 ∨ op = 62 then allS else if op = 53 then noneS
  else if op = 54 then unL noneS (L.take (L.length - 1)) else unL (if op = 50 ∨ op = 52 then oneS m else if op = 51 then oneS (m ++ tick) else noneS) L
def bndR : NodeA → Api_NamesA
  | .mk op m r ks => boundB op m (anyS (.mk op m r ks)) (ks.attach.map fun ⟨k, _⟩ => bndR k)
termination_by n => SizeOf.sizeOf n
decreasing_by exact NodeA.size_kid (by assumption)
theorem bndR_eq (n : NodeA) : bndR n = boundB n.op n.name (anyS n) (n.kids.map bndR) := by cases n with | mk o m r ks => rw [bndR, att_map]; rfl
section
variable {V : List ByteArray}
theorem good_nth {L : List Api_NamesA} (hV : Uni V) (h : ∀ x ∈ L, Good V x) (i : Nat) : Good V (nthS L i) := by
  unfold nthS
  rw [List.getD_eq_getElem?_getD]
  cases hx : L[i]? with
  | none => exact good_none hV _
  | some x => exact h x (List.mem_of_getElem? hx)
theorem good_prim {s : Api_NamesA} (h : Good V s) : Good V (prmS s) := by
  have key : ∀ (l : List ByteArray) (o : Api_NamesA), Good V o → (∀ x ∈ l, x ∈ s.list) → Good V (l.foldl primF o) := by
    intro l
    induction l with
    | nil => exact fun o ho _ => ho
    | cons v l ih =>
      intro o ho hl
      refine ih _ ?_ fun x hx => hl x (List.mem_cons_of_mem _ hx)
      have hv := hl v (List.mem_cons_self ..)
      unfold primF
      cases ht : tickB v with
      | true => exact ho
      | false =>
        have hne : v[v.size - 1]? ≠ some 39 := by unfold tickB at ht; simpa using ht
        have hvar := h.var v hv
        have hn : nameB v = true := by unfold varB unpB at hvar; rwa [if_neg (fun h2 => hne h2.2)] at hvar
        exact good_union ho (good_one h.uni (tick_var hn) (h.uni.cls v (h.sub v hv) hne))
  exact key s.list s h fun _ h => h
theorem good_tk {n : NodeA} (hV : Uni V) (hf : Fine n) (hc : Cov V n) (hn : namedS n.op = true) : Good V (unionS (oneS n.name) (oneS (n.name ++ tick))) := by
  obtain ⟨h1, h2, _⟩ := good_name hV hf hc hn
  exact good_union h1 h2
theorem good_flow {ks : List NodeA} (hV : Uni V) (hk : ∀ k ∈ ks, Fine k ∧ Cov V k) : ∀ s, Good V s → Good V (ks.foldl flowM s) := by
  induction ks with
  | nil => exact fun s h => h
  | cons k ks ih =>
    intro s hs
    refine ih (fun x hx => hk x (List.mem_cons_of_mem _ hx)) _ ?_
    unfold flowM
    cases h : k.op == 55 with
    | false => exact hs
    | true =>
      obtain ⟨h1, h2⟩ := hk k (List.mem_cons_self ..)
      exact good_union hs (good_tk hV h1 h2 (named_b (by have := eq_of_beq h; omega)))
theorem good_must (hV : Uni V) : ∀ n : NodeA, Fine n → Cov V n → Good V (mustS n) := by
  refine NodeA.ind fun n ih => ?_
  intro hf hc
  have hL : ∀ x ∈ n.kids.map mustS, Good V x := fun x hx => by obtain ⟨k, hk, rfl⟩ := List.mem_map.1 hx; exact ih k hk (fine_kid hf hk) (cov_kid hc hk)
  rw [mustS_eq]
  unfold mustB
  split
  · exact (good_name hV hf hc (named_b (by omega))).1
  split
  · exact (good_name hV hf hc (named_b (by omega))).2.1
  split
  · exact good_flow hV (fun k hk => ⟨fine_kid hf hk, cov_kid hc hk⟩) _ (good_none hV _)
  split
  · exact good_union (good_nth hV hL 0) (good_nth hV hL 1)
  split
  · exact good_meet (good_nth hV hL 0) (good_nth hV hL 1)
  split
  · exact good_nth hV hL 0
  · exact good_none hV _
theorem good_free (hV : Uni V) : ∀ n : NodeA, Fine n → Cov V n → Good V (freeS n) := by
  refine NodeA.ind fun n ih => ?_
  intro hf hc
  have hL : ∀ x ∈ n.kids.map freeS, Good V x := fun x hx => by obtain ⟨k, hk, rfl⟩ := List.mem_map.1 hx; exact ih k hk (fine_kid hf hk) (cov_kid hc hk)
  have hM : ∀ x ∈ n.kids.map mustS, Good V x := fun x hx => by obtain ⟨k, hk, rfl⟩ := List.mem_map.1 hx; exact good_must hV k (fine_kid hf hk) (cov_kid hc hk)
  rw [freeS_eq]
  unfold freeB
  split
  · exact (good_name hV hf hc (named_b (by omega))).1
  split
  · exact (good_name hV hf hc (named_b (by omega))).2.1
  split
  · exact good_none hV _
  split
  · split
    · exact good_none hV _
    · exact good_prim (good_nth hV hL 0)
  split
  · exact good_minus (good_nth hV hL 0) (good_name hV hf hc (named_b (by omega))).1
  split
  · exact good_union (good_nth hV hL 0) (good_minus (good_nth hV hL 1) (good_nth hV hM 0))
  split
  · exact good_union (good_unL (good_none hV _) hL) (good_name hV hf hc (named_b (by omega))).1
  · exact good_unL (good_none hV _) hL
theorem good_any (hV : Uni V) : ∀ n : NodeA, Fine n → Cov V n → Good V (anyS n) := by
  refine NodeA.ind fun n ih => ?_
  intro hf hc
  have hL : ∀ x ∈ n.kids.map anyS, Good V x := fun x hx => by obtain ⟨k, hk, rfl⟩ := List.mem_map.1 hx; exact ih k hk (fine_kid hf hk) (cov_kid hc hk)
  rw [anyS_eq]
  unfold anyB
  refine good_unL ?_ hL
  split
  · exact (good_name hV hf hc (named_b (by omega))).1
  split
  · exact (good_name hV hf hc (named_b (by omega))).2.1
  split
  · exact good_tk hV hf hc (named_b (by omega))
  split
  · exact good_none hV _
  · exact good_none hV _
theorem good_bndR (hV : Uni V) : ∀ n : NodeA, Fine n → Cov V n → Good V (bndR n) := by
  refine NodeA.ind fun n ih => ?_
  intro hf hc
  have hL : ∀ x ∈ n.kids.map bndR, Good V x := fun x hx => by obtain ⟨k, hk, rfl⟩ := List.mem_map.1 hx; exact ih k hk (fine_kid hf hk) (cov_kid hc hk)
  rw [bndR_eq]
  unfold boundB
  split
  · exact good_any hV n hf hc
  split
  · exact good_tk hV hf hc (named_b (by omega))
  split
  · exact good_none hV _
  split
  · exact good_none hV _
  split
  · exact good_unL (good_none hV _) fun x hx => hL x (List.mem_of_mem_take hx)
  · refine good_unL ?_ hL
    split
    · exact (good_name hV hf hc (named_b (by omega))).1
    split
    · exact (good_name hV hf hc (named_b (by omega))).2.1
    · exact good_none hV _
/-! ### The loops -/
def kidsJ (K : Nat) (self : NodeA → Option Api_NamesA) (L : List NodeA) : (Int × Api_NamesA → Option Api_NamesA) → Int × Api_NamesA → Option Api_NamesA := fun again x =>
  if decide (x.1 < (L.length : Int)) then (idx L x.1).bind fun x50 => (self x50).bind fun r52 => (r10_join K x.2 r52).bind fun r54 => again (IntKind.wrap .i64 (x.1 + (1 : Int)), r54) else some x.2
theorem loopJ {K : Nat} (L : List NodeA) (z : Int) (m : Nat) (hz : z = (m : Int)) (hm : m ≤ L.length) {self : NodeA → Option Api_NamesA} (f : NodeA → Api_NamesA) {s0 : Api_NamesA} (hs : ∀ x ∈ L, self x = some (f x)) (hg : ∀ x ∈ L, Good V (f x)) (h0 : Good V s0) (hK : KOk V K) (hL : L.length < K) (hb : L.length ≤ big) :
    iter K (fun (again : Int × Api_NamesA → Option Api_NamesA) (x : Int × Api_NamesA) => if decide (x.1 < z) then (idx L x.1).bind fun x50 => (self x50).bind fun r52 => (r10_join K x.2 r52).bind fun r54 => again (IntKind.wrap .i64 (x.1 + (1 : Int)), r54) else some x.2) (0, s0) = some (unL s0 ((L.take m).map f)) := by
  unfold big at hb
  subst hz
  have hgu : ∀ i, Good V (unL s0 ((L.take i).map f)) := fun i => good_unL h0 fun x hx => by
    obtain ⟨y, hy, rfl⟩ := List.mem_map.1 hx
    exact hg y (List.mem_of_mem_take hy)
  refine foldG m (fun i => ((i : Int), unL s0 ((L.take i).map f))) _ (fun g i hi => ?_) (fun g => ?_) (by omega) rfl
  · have hx : L[i]? = some L[i] := List.getElem?_eq_getElem (by omega)
    have hm' := List.getElem_mem (show i < L.length by omega)
    simp only [lt_tn hi, if_true, idx_nat, hx, Option.bind_some, hs _ hm', join_eq (hgu i) (hg _ hm') hK]
    have et : unL s0 ((L.take (i + 1)).map f) = unionS (unL s0 ((L.take i).map f)) (f L[i]) := by
      rw [List.take_add_one, hx]
      simp only [Option.toList_some, List.map_append, List.map_cons, List.map_nil, unL, List.foldl_append, List.foldl_cons, List.foldl_nil]
    rw [w64s (by omega), et]
  · simp only [lt_fn (Nat.le_refl m), Bool.false_eq_true, if_false]
theorem kidsJ_eq {K : Nat} (L : List NodeA) {self : NodeA → Option Api_NamesA} (f : NodeA → Api_NamesA) {s0 : Api_NamesA} (hs : ∀ x ∈ L, self x = some (f x)) (hg : ∀ x ∈ L, Good V (f x)) (h0 : Good V s0) (hK : KOk V K) (hL : L.length < K) (hb : L.length ≤ big) : iter K (kidsJ K self L) (0, s0) = some (unL s0 (L.map f)) := by
  have := loopJ L (L.length : Int) L.length rfl (Nat.le_refl _) f hs hg h0 hK hL hb
  rw [List.take_length] at this
  exact this
theorem tickB_get {v : ByteArray} (h : 0 < v.size) (hb : v.size < 9223372036854775807) : ∃ c : UInt8, strAt v (IntKind.wrap .i64 ((v.size : Int) - 1)) = some c ∧ ((c.toNat : Int) != 39) = !tickB v := by
  have ew : IntKind.wrap .i64 ((v.size : Int) - 1) = ((v.size - 1 : Nat) : Int) := by rw [w64 (by omega) (by omega)]; omega
  obtain ⟨h1, h2⟩ := strAt_get (s := v) (i := v.size - 1) (by omega)
  refine ⟨_, by rw [ew]; exact h1, ?_⟩
  unfold tickB
  rw [h2, bne, byte39]; rfl
theorem primed_eq {K : Nat} {s : Api_NamesA} (h : Good V s) (hK : KOk V K) : r10_primed K s = some (prmS s) := by
  have hlen := h.len
  have htop := h.lt
  have ht : topV = 1000000000000 := rfl
  have hg : ∀ i, Good V ((s.list.take i).foldl primF s) := fun i => by
    have key : ∀ (l : List ByteArray) (o : Api_NamesA), Good V o → (∀ x ∈ l, x ∈ s.list) → Good V (l.foldl primF o) := by
      intro l
      induction l with
      | nil => exact fun o ho _ => ho
      | cons v l ih =>
        intro o ho hl
        refine ih _ ?_ fun x hx => hl x (List.mem_cons_of_mem _ hx)
        have hv := hl v (List.mem_cons_self ..)
        unfold primF
        cases htk : tickB v with
        | true => exact ho
        | false =>
          have hne : v[v.size - 1]? ≠ some 39 := by unfold tickB at htk; simpa using htk
          have hvar := h.var v hv
          have hn : nameB v = true := by unfold varB unpB at hvar; rwa [if_neg (fun h2 => hne h2.2)] at hvar
          exact good_union ho (good_one h.uni (tick_var hn) (h.uni.cls v (h.sub v hv) hne))
    exact key _ s h fun x hx => List.mem_of_mem_take hx
  unfold r10_primed
  refine ob _ (foldG s.list.length (fun i => ((i : Int), (s.list.take i).foldl primF s)) (prmS s) (fun g i hi => ?_) (fun g => ?_) (by have := hK.2; omega) rfl) rfl
  · have hx : s.list[i]? = some s.list[i] := List.getElem?_eq_getElem hi
    have hm := List.getElem_mem hi
    have h100 := h.uni.siz _ (h.sub _ hm)
    have hvar := h.var _ hm
    have hsz : 0 < s.list[i].size := by
      apply Nat.pos_of_ne_zero
      intro h0
      unfold varB unpB at hvar
      rw [if_neg (fun h => by omega)] at hvar
      have := (name_size hvar).1
      omega
    have et : s.list.take (i + 1) = s.list.take i ++ [s.list[i]] := by rw [List.take_add_one, hx]; rfl
    obtain ⟨c, hc1, hc2⟩ := tickB_get hsz (by omega)
    simp only [lt_tn hi, if_true, idx_nat, hx, Option.bind_some, hc1, hc2, catO_tick h100, r10_only]
    rw [w64s (by omega), et, List.foldl_append]
    show _ = g (((i + 1 : Nat) : Int), primF ((s.list.take i).foldl primF s) s.list[i])
    unfold primF
    cases htk : tickB s.list[i] with
    | true => simp
    | false =>
      have hne : s.list[i][s.list[i].size - 1]? ≠ some 39 := by unfold tickB at htk; simpa using htk
      have hn : nameB s.list[i] = true := by unfold varB unpB at hvar; rwa [if_neg (fun h2 => hne h2.2)] at hvar
      have hj := join_eq (hg i) (good_one h.uni (tick_var hn) (h.uni.cls _ (h.sub _ hm) hne)) hK
      simp only [Bool.not_false, if_true, Bool.false_eq_true, if_false]
      unfold primF at hj
      rw [hj]; rfl
  · simp only [lt_fn (Nat.le_refl s.list.length), Bool.false_eq_true, if_false, List.take_length]
    rfl
end
end Go.Proofs.YtngmfimpaembnaaGreatDoor
