/- The abstract layer, part N: the project's data (package api) as plain data, and as rows of cells. -/
import Derived.Test.YtngmfimpaembnaaGreatDoorIsoW
namespace Go.Iso
open Go Go.RowKit
structure RatA where
  neg : Bool
  num : List Int
  den : List Int
def RatA.enc (r : RatA) : List D := [.val (.bool r.neg), slD u32V r.num, slD u32V r.den]
inductive NodeA where
  | mk (op : Int) (name : ByteArray) (num : RatA) (kids : List NodeA)
def NodeA.kids : NodeA → List NodeA | .mk _ _ _ k => k
def NodeA.enc : NodeA → List D
  | .mk op name num kids => [.val (.int .i64 op), .val (.string name), .val (.bool num.neg), slD u32V num.num, slD u32V num.den, .sl (kids.map NodeA.enc)]
structure PairA where
  what : NodeA
  with_ : NodeA
  rates : List NodeA
def PairA.enc (p : PairA) : List D := p.what.enc ++ p.with_.enc ++ [slD NodeA.enc p.rates]
structure MonoA where
  exps : List Int
  coef : RatA
def MonoA.enc (m : MonoA) : List D := [slD i64V m.exps, .val (.bool m.coef.neg), slD u32V m.coef.num, slD u32V m.coef.den]
structure PolyA where
  n : Int
  terms : List MonoA
def PolyA.enc (p : PolyA) : List D := [.val (.int .i64 p.n), slD MonoA.enc p.terms]
structure SquareA where
  weight : RatA
  poly : PolyA
def SquareA.enc (s : SquareA) : List D := [.val (.bool s.weight.neg), slD u32V s.weight.num, slD u32V s.weight.den, .val (.int .i64 s.poly.n), slD MonoA.enc s.poly.terms]
inductive CertA where
  | mk (kind : Int) (nums : List RatA) (polys : List PolyA) (squares : List SquareA) (kids : List CertA)
def CertA.enc : CertA → List D
  | .mk kind nums polys squares kids => [.val (.int .i64 kind), slD RatA.enc nums, slD PolyA.enc polys, slD SquareA.enc squares, .sl (kids.map CertA.enc)]
inductive ProofA where
  | mk (rule name : ByteArray) (forms : List NodeA) (subst : List PairA) (path : List Int) (args : List ByteArray) (cert : CertA) (kids : List ProofA)
def ProofA.enc : ProofA → List D
  | .mk rule name forms subst path args cert kids =>
    [.val (.string rule), .val (.string name), slD NodeA.enc forms, slD PairA.enc subst, slD i64V path, slD strV args] ++ cert.enc ++ [.sl (kids.map ProofA.enc)]
def ProofA.kids : ProofA → List ProofA | .mk _ _ _ _ _ _ _ k => k
structure StepA where
  what : ProofA
  kids : List Int
def StepA.enc (s : StepA) : List D := s.what.enc ++ [slD i64V s.kids]
theorem NodeA.enc_mk {op : Int} {name : ByteArray} {num : RatA} {kids : List NodeA} :
    NodeA.enc (.mk op name num kids) = [.val (.int .i64 op), .val (.string name), .val (.bool num.neg), slD u32V num.num, slD u32V num.den, slD NodeA.enc kids] := by
  rw [NodeA.enc]
theorem CertA.enc_mk {kind : Int} {nums : List RatA} {polys : List PolyA} {squares : List SquareA} {kids : List CertA} :
    CertA.enc (.mk kind nums polys squares kids) = [.val (.int .i64 kind), slD RatA.enc nums, slD PolyA.enc polys, slD SquareA.enc squares, slD CertA.enc kids] := by
  rw [CertA.enc]
theorem NodeA.enc_len (a : NodeA) : a.enc.length = 6 := by cases a; rw [NodeA.enc_mk]; rfl
theorem CertA.enc_len (a : CertA) : a.enc.length = 5 := by cases a; rw [CertA.enc_mk]; rfl
theorem ProofA.enc_mk {rule name : ByteArray} {forms : List NodeA} {subst : List PairA} {path : List Int} {args : List ByteArray} {kind : Int} {nums : List RatA} {polys : List PolyA} {squares : List SquareA} {ck : List CertA} {kids : List ProofA} :
    ProofA.enc (.mk rule name forms subst path args (.mk kind nums polys squares ck) kids) =
      [.val (.string rule), .val (.string name), slD NodeA.enc forms, slD PairA.enc subst, slD i64V path, slD strV args, .val (.int .i64 kind), slD RatA.enc nums, slD PolyA.enc polys, slD SquareA.enc squares, slD CertA.enc ck, slD ProofA.enc kids] := by
  rw [ProofA.enc, CertA.enc_mk]; rfl
theorem ProofA.enc_len (a : ProofA) : a.enc.length = 12 := by
  obtain ⟨r, n, f, s, p, as, ⟨k, ns, ps, ss, ck⟩, ks⟩ := a; rw [ProofA.enc_mk]; rfl
theorem NodeA.size_kid {op : Int} {name : ByteArray} {num : RatA} {kids : List NodeA} {x : NodeA} (h : x ∈ kids) : SizeOf.sizeOf x < SizeOf.sizeOf (NodeA.mk op name num kids) := by
  have := List.sizeOf_lt_of_mem h
  simp only [NodeA.mk.sizeOf_spec]; omega
theorem CertA.size_kid {kind : Int} {nums : List RatA} {polys : List PolyA} {squares : List SquareA} {kids : List CertA} {x : CertA} (h : x ∈ kids) : SizeOf.sizeOf x < SizeOf.sizeOf (CertA.mk kind nums polys squares kids) := by
  have := List.sizeOf_lt_of_mem h
  simp only [CertA.mk.sizeOf_spec]; omega
theorem ProofA.size_kid {rule name : ByteArray} {forms : List NodeA} {subst : List PairA} {path : List Int} {args : List ByteArray} {cert : CertA} {kids : List ProofA} {x : ProofA} (h : x ∈ kids) :
    SizeOf.sizeOf x < SizeOf.sizeOf (ProofA.mk rule name forms subst path args cert kids) := by
  have := List.sizeOf_lt_of_mem h
  simp only [ProofA.mk.sizeOf_spec]; omega
theorem ldV_all {cs : List D} {n : Nat} (h : cs.length = n) : ldV true n (cs.map .d) = some (.agg (cs.map .d)) := by
  unfold ldV
  rw [if_pos rfl, if_pos (by simp [h]), List.take_of_length_le (by simp [h])]
theorem ldV_node {x : NodeA} : ldV true 6 (x.enc.map .d) = some (.agg (x.enc.map .d)) := ldV_all x.enc_len
theorem ldV_cert {x : CertA} : ldV true 5 (x.enc.map .d) = some (.agg (x.enc.map .d)) := ldV_all x.enc_len
theorem ldV_proof {x : ProofA} : ldV true 12 (x.enc.map .d) = some (.agg (x.enc.map .d)) := ldV_all x.enc_len
theorem PairA.enc_len (p : PairA) : p.enc.length = 13 := by simp [PairA.enc, NodeA.enc_len]
theorem StepA.enc_len (p : StepA) : p.enc.length = 13 := by simp [StepA.enc, ProofA.enc_len]
theorem ldV_pair {x : PairA} : ldV true 13 (x.enc.map .d) = some (.agg (x.enc.map .d)) := ldV_all x.enc_len
theorem ldV_step {x : StepA} : ldV true 13 (x.enc.map .d) = some (.agg (x.enc.map .d)) := ldV_all x.enc_len
theorem ldV_pair0 {p : PairA} : ldV true 6 (p.enc.map .d) = some (.agg (p.what.enc.map .d)) := by
  unfold ldV PairA.enc
  rw [if_pos rfl, if_pos (by simp [NodeA.enc_len]), List.map_append, List.map_append, List.append_assoc, List.take_append_of_le_length (by simp [NodeA.enc_len]), List.take_of_length_le (by simp [NodeA.enc_len])]
theorem ldV_pair1 {p : PairA} : ldV true 6 ((p.enc.map .d).drop 6) = some (.agg (p.with_.enc.map .d)) := by
  have e : (p.enc.map V.d).drop 6 = p.with_.enc.map .d ++ [.d (slD NodeA.enc p.rates)] := by
    unfold PairA.enc
    rw [List.map_append, List.map_append, List.append_assoc, List.drop_append_of_le_length (by simp [NodeA.enc_len]), List.drop_eq_nil_of_le (by simp [NodeA.enc_len]), List.nil_append]; rfl
  rw [e]; unfold ldV
  rw [if_pos rfl, if_pos (by simp [NodeA.enc_len]), List.take_append_of_le_length (by simp [NodeA.enc_len]), List.take_of_length_le (by simp [NodeA.enc_len])]
theorem ldV_pair2 {p : PairA} : ldV false 1 ((p.enc.map .d).drop 12) = some (.d (slD NodeA.enc p.rates)) := by
  have e : (p.enc.map V.d).drop 12 = [.d (slD NodeA.enc p.rates)] := by
    unfold PairA.enc
    rw [List.map_append, List.drop_append_of_le_length (by simp [NodeA.enc_len]), List.drop_eq_nil_of_le (by simp [NodeA.enc_len]), List.nil_append]; rfl
  rw [e]; rfl
theorem all_one {l : List D} : (∀ v ∈ l.map V.d, v.one = true) = True := by
  simp only [eq_iff_iff, iff_true]
  intro v hv
  obtain ⟨x, _, rfl⟩ := List.mem_map.1 hv
  rfl
abbrev aggL (cs : List D) : List V := cs.map .d
abbrev aggV (cs : List D) : V := .agg (cs.map .d)
theorem bytes_loop (s : ByteArray) : ∀ (n i : Nat) (acc : List UInt8), s.size - i = n → ByteArray.toList.loop s i acc = acc.reverse ++ s.data.toList.drop i := by
  intro n
  induction n with
  | zero =>
    intro i acc h
    rw [ByteArray.toList.loop]
    have : ¬ i < s.size := by omega
    rw [if_neg this, List.drop_eq_nil_of_le (by simp; have : s.size = s.data.size := rfl; omega)]
    simp
  | succ n ih =>
    intro i acc h
    rw [ByteArray.toList.loop]
    have hlt : i < s.size := by omega
    rw [if_pos hlt, ih (i + 1) _ (by omega)]
    have h2 : i < s.data.toList.length := by simpa using hlt
    rw [List.drop_eq_getElem_cons h2]
    simp [ByteArray.get!, hlt]
theorem bytes_toList (s : ByteArray) : s.toList = s.data.toList := by
  rw [ByteArray.toList, bytes_loop s _ 0 [] rfl]; simp
theorem toList_inj {a b : ByteArray} (h : a.toList = b.toList) : a = b := by
  rw [bytes_toList, bytes_toList] at h
  cases a; cases b; simp at h; rw [h]
theorem bytes_eq {a b : ByteArray} : (a.toList == b.toList) = true ↔ a = b :=
  ⟨fun h => toList_inj (by simpa using h), fun h => by rw [h]; simp⟩
end Go.Iso
