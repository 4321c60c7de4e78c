/- Part of the proof of a law: contracts of the functions that the law reaches, or plain laws of them, out of the abstract layer (the texts YtafipfdohicfbaaGreatIso..). No condition. -/
import Derived.Test.YtafipfdohicfbaaGreatW
import Derived.Test.YtafipfdohicfbaaGreatIsoF
import Derived.Test.YtafipfdohicfbaaGreatLman
import Derived.Test.YtafipfdohicfbaaGreatIsoV
import Derived.Test.YtafipfdohicfbaaGreatPa
open Nat (reduceEqDiff reduceAdd reduceSub reduceMul reduceLeDiff reduceLT)
namespace Go.Proofs.YtafipfdohicfbaaGreat
open Go Go.Iso Go.Proofs
set_option linter.unusedSimpArgs false
set_option linter.unusedVariables false
set_option maxRecDepth 100000
/-! ### isochrone/axiom.Text -/
def axiom_Text (K : Nat) (p0 : ByteArray) : Option (ByteArray × Int) := if (p0.toList == (⟨#[97, 115, 115, 105, 103, 110]⟩ : ByteArray).toList) then
  some ((⟨#[91, 120, 32, 58, 61, 32, 102, 40, 41, 93, 112, 40, 120, 41, 32, 60, 45, 62, 32, 112, 40, 102, 40, 41, 41]⟩ : ByteArray), (0 : Int))
 else
  if (p0.toList == (⟨#[112, 114, 105, 109, 101]⟩ : ByteArray).toList) then
   some ((⟨#[91, 120, 39, 32, 58, 61, 32, 102, 40, 41, 93, 112, 40, 120, 39, 41, 32, 60, 45, 62, 32, 112, 40, 102, 40, 41, 41]⟩ : ByteArray), (0 : Int))
  else
   if (p0.toList == (⟨#[99, 104, 111, 111, 115, 101]⟩ : ByteArray).toList) then
    some ((⟨#[91, 120, 32, 58, 61, 32, 42, 93, 112, 40, 120, 41, 32, 60, 45, 62, 32, 102, 111, 114, 97, 108, 108, 32, 120, 46, 32, 112, 40, 120, 41]⟩ : ByteArray), (0 : Int))
   else
    if (p0.toList == (⟨#[116, 101, 115, 116]⟩ : ByteArray).toList) then
     some ((⟨#[91, 63, 81, 123, 125, 93, 80, 123, 125, 32, 60, 45, 62, 32, 40, 81, 123, 125, 32, 45, 62, 32, 80, 123, 125, 41]⟩ : ByteArray), (0 : Int))
    else
     if (p0.toList == (⟨#[99, 104, 111, 105, 99, 101]⟩ : ByteArray).toList) then
      some ((⟨#[91, 123, 97, 33, 32, 43, 43, 32, 98, 33, 125, 93, 80, 123, 125, 32, 60, 45, 62, 32, 40, 91, 97, 33, 93, 80, 123, 125, 32, 38, 32, 91, 98, 33, 93, 80, 123, 125, 41]⟩ : ByteArray), (0 : Int))
     else
      if (p0.toList == (⟨#[99, 111, 109, 112, 111, 115, 101]⟩ : ByteArray).toList) then
       some ((⟨#[91, 123, 97, 33, 32, 59, 32, 98, 33, 125, 93, 80, 123, 125, 32, 60, 45, 62, 32, 91, 97, 33, 93, 91, 98, 33, 93, 80, 123, 125]⟩ : ByteArray), (0 : Int))
      else
       if (p0.toList == (⟨#[105, 116, 101, 114, 97, 116, 101]⟩ : ByteArray).toList) then
        some ((⟨#[91, 123, 97, 33, 125, 42, 93, 80, 123, 125, 32, 60, 45, 62, 32, 40, 80, 123, 125, 32, 38, 32, 91, 97, 33, 93, 91, 123, 97, 33, 125, 42, 93, 80, 123, 125, 41]⟩ : ByteArray), (0 : Int))
       else
        if (p0.toList == (⟨#[100, 117, 97, 108]⟩ : ByteArray).toList) then
         some ((⟨#[91, 123, 97, 33, 125, 64, 93, 80, 123, 125, 32, 60, 45, 62, 32, 33, 40, 91, 97, 33, 93, 33, 80, 123, 125, 41]⟩ : ByteArray), (0 : Int))
        else
         if (p0.toList == (⟨#[100, 105, 97, 109, 111, 110, 100]⟩ : ByteArray).toList) then
          some ((⟨#[60, 124, 97, 33, 124, 62, 80, 123, 125, 32, 60, 45, 62, 32, 33, 40, 91, 97, 33, 93, 33, 80, 123, 125, 41]⟩ : ByteArray), (0 : Int))
         else
          if (p0.toList == (⟨#[75]⟩ : ByteArray).toList) then
           some ((⟨#[91, 97, 93, 40, 80, 123, 125, 32, 45, 62, 32, 81, 123, 125, 41, 32, 45, 62, 32, 40, 91, 97, 93, 80, 123, 125, 32, 45, 62, 32, 91, 97, 93, 81, 123, 125, 41]⟩ : ByteArray), (0 : Int))
          else
           if (p0.toList == (⟨#[86]⟩ : ByteArray).toList) then
            some ((⟨#[112, 40, 41, 32, 45, 62, 32, 91, 97, 93, 112, 40, 41]⟩ : ByteArray), (0 : Int))
           else
            if (p0.toList == (⟨#[73]⟩ : ByteArray).toList) then
             some ((⟨#[91, 123, 97, 125, 42, 93, 40, 80, 123, 125, 32, 45, 62, 32, 91, 97, 93, 80, 123, 125, 41, 32, 45, 62, 32, 40, 80, 123, 125, 32, 45, 62, 32, 91, 123, 97, 125, 42, 93, 80, 123, 125, 41]⟩ : ByteArray), (0 : Int))
            else
             if (p0.toList == (⟨#[68, 87]⟩ : ByteArray).toList) then
              some ((⟨#[91, 123, 99, 46, 46, 32, 38, 32, 81, 123, 125, 125, 93, 81, 123, 125]⟩ : ByteArray), (0 : Int))
             else
              if (p0.toList == (⟨#[68, 67]⟩ : ByteArray).toList) then
               some ((⟨#[91, 123, 99, 46, 46, 32, 38, 32, 81, 123, 125, 125, 93, 82, 123, 125, 32, 45, 62, 32, 40, 91, 123, 99, 46, 46, 32, 38, 32, 81, 123, 125, 125, 93, 80, 123, 125, 32, 60, 45, 62, 32, 91, 123, 99, 46, 46, 32, 38, 32, 40, 81, 123, 125, 32, 38, 32, 82, 123, 125, 41, 125, 93, 80, 123, 125, 41]⟩ : ByteArray), (0 : Int))
              else
               if (p0.toList == (⟨#[68, 69]⟩ : ByteArray).toList) then
                some ((⟨#[91, 123, 120, 39, 32, 61, 32, 102, 123, 125, 44, 32, 99, 46, 46, 32, 38, 32, 81, 123, 125, 125, 93, 80, 123, 125, 32, 60, 45, 62, 32, 91, 123, 120, 39, 32, 61, 32, 102, 123, 125, 44, 32, 99, 46, 46, 32, 38, 32, 81, 123, 125, 125, 93, 91, 120, 39, 32, 58, 61, 32, 102, 123, 125, 93, 80, 123, 125]⟩ : ByteArray), (0 : Int))
               else
                if (p0.toList == (⟨#[97, 108, 108, 105]⟩ : ByteArray).toList) then
                 some ((⟨#[40, 102, 111, 114, 97, 108, 108, 32, 120, 46, 32, 112, 40, 120, 41, 41, 32, 45, 62, 32, 112, 40, 102, 40, 41, 41]⟩ : ByteArray), (0 : Int))
                else
                 if (p0.toList == (⟨#[97, 108, 108, 86]⟩ : ByteArray).toList) then
                  some ((⟨#[112, 40, 41, 32, 45, 62, 32, 102, 111, 114, 97, 108, 108, 32, 120, 46, 32, 112, 40, 41]⟩ : ByteArray), (0 : Int))
                 else
                  if (p0.toList == (⟨#[97, 108, 108, 75]⟩ : ByteArray).toList) then
                   some ((⟨#[40, 102, 111, 114, 97, 108, 108, 32, 120, 46, 32, 40, 80, 123, 125, 32, 45, 62, 32, 81, 123, 125, 41, 41, 32, 45, 62, 32, 40, 40, 102, 111, 114, 97, 108, 108, 32, 120, 46, 32, 80, 123, 125, 41, 32, 45, 62, 32, 40, 102, 111, 114, 97, 108, 108, 32, 120, 46, 32, 81, 123, 125, 41, 41]⟩ : ByteArray), (0 : Int))
                  else
                   if (p0.toList == (⟨#[101, 120, 105, 115, 116, 115]⟩ : ByteArray).toList) then
                    some ((⟨#[40, 101, 120, 105, 115, 116, 115, 32, 120, 46, 32, 80, 123, 125, 41, 32, 60, 45, 62, 32, 33, 40, 102, 111, 114, 97, 108, 108, 32, 120, 46, 32, 33, 80, 123, 125, 41]⟩ : ByteArray), (0 : Int))
                   else
                    if (p0.toList == (⟨#[114, 101, 102, 108]⟩ : ByteArray).toList) then
                     some ((⟨#[102, 123, 125, 32, 61, 32, 102, 123, 125]⟩ : ByteArray), (0 : Int))
                    else
                     if (p0.toList == (⟨#[120, 39]⟩ : ByteArray).toList) then
                      some ((⟨#[40, 120, 41, 39, 32, 61, 32, 120, 39]⟩ : ByteArray), (0 : Int))
                     else
                      some ((⟨#[]⟩ : ByteArray), (190 : Int))
set_option maxHeartbeats 4000000 in
theorem axiom_Text_ok {K : Nat} {p0 : ByteArray} {r : ByteArray × Int} (h : axiom_Text K p0 = some r) : Cn Tryz.prog 13 [.d (.val (.string p0))] (.tup [.d (.val (.string r.1)), .d (.val (.int .i64 r.2))]) := by
 refine Cn.oz Tryz.func13 Tryz.call13 Tryz.ntmps13 Tryz.results13 fun hfit => ?_
 unfold axiom_Text at h
 refine AW.kr [] [0] ?_
 refine AW.ks [] [0] ?_
 refine AW.one ?_
 refine AW.ro ?_
 refine AW.ks [] [4] ?_
 refine AW.block ?_
 refine AW.ro ?_
 refine AW.ks [] [4, 5] ?_
 refine AW.tt h (fun hb1 h => ?_) fun hb1 h => ?_
 ·refine AW.ro ?_
  refine AW.ret ?_
  cases h; refine nz ?_; exact .same _
 refine AW.ro ?_
 refine AW.ks [] [4, 7] ?_
 refine AW.tt h (fun hb2 h => ?_) fun hb2 h => ?_
 ·refine AW.ro ?_
  refine AW.ret ?_
  cases h; refine nz ?_; exact .same _
 refine AW.ro ?_
 refine AW.ks [] [4, 9] ?_
 refine AW.tt h (fun hb3 h => ?_) fun hb3 h => ?_
 ·refine AW.ro ?_
  refine AW.ret ?_
  cases h; refine nz ?_; exact .same _
 refine AW.ro ?_
 refine AW.ks [] [4, 11] ?_
 refine AW.tt h (fun hb4 h => ?_) fun hb4 h => ?_
 ·refine AW.ro ?_
  refine AW.ret ?_
  cases h; refine nz ?_; exact .same _
 refine AW.ro ?_
 refine AW.ks [] [4, 13] ?_
 refine AW.tt h (fun hb5 h => ?_) fun hb5 h => ?_
 ·refine AW.ro ?_
  refine AW.ret ?_
  cases h; refine nz ?_; exact .same _
 refine AW.ro ?_
 refine AW.ks [] [4, 15] ?_
 refine AW.tt h (fun hb6 h => ?_) fun hb6 h => ?_
 ·refine AW.ro ?_
  refine AW.ret ?_
  cases h; refine nz ?_; exact .same _
 refine AW.ro ?_
 refine AW.ks [] [4, 17] ?_
 refine AW.tt h (fun hb7 h => ?_) fun hb7 h => ?_
 ·refine AW.ro ?_
  refine AW.ret ?_
  cases h; refine nz ?_; exact .same _
 refine AW.ro ?_
 refine AW.ks [] [4, 19] ?_
 refine AW.tt h (fun hb8 h => ?_) fun hb8 h => ?_
 ·refine AW.ro ?_
  refine AW.ret ?_
  cases h; refine nz ?_; exact .same _
 refine AW.ro ?_
 refine AW.ks [] [4, 21] ?_
 refine AW.tt h (fun hb9 h => ?_) fun hb9 h => ?_
 ·refine AW.ro ?_
  refine AW.ret ?_
  cases h; refine nz ?_; exact .same _
 refine AW.ro ?_
 refine AW.ks [] [4, 23] ?_
 refine AW.tt h (fun hb10 h => ?_) fun hb10 h => ?_
 ·refine AW.ro ?_
  refine AW.ret ?_
  cases h; refine nz ?_; exact .same _
 refine AW.ro ?_
 refine AW.ks [] [4, 25] ?_
 refine AW.tt h (fun hb11 h => ?_) fun hb11 h => ?_
 ·refine AW.ro ?_
  refine AW.ret ?_
  cases h; refine nz ?_; exact .same _
 refine AW.ro ?_
 refine AW.ks [] [4, 27] ?_
 refine AW.tt h (fun hb12 h => ?_) fun hb12 h => ?_
 ·refine AW.ro ?_
  refine AW.ret ?_
  cases h; refine nz ?_; exact .same _
 refine AW.ro ?_
 refine AW.ks [] [4, 29] ?_
 refine AW.tt h (fun hb13 h => ?_) fun hb13 h => ?_
 ·refine AW.ro ?_
  refine AW.ret ?_
  cases h; refine nz ?_; exact .same _
 refine AW.ro ?_
 refine AW.ks [] [4, 31] ?_
 refine AW.tt h (fun hb14 h => ?_) fun hb14 h => ?_
 ·refine AW.ro ?_
  refine AW.ret ?_
  cases h; refine nz ?_; exact .same _
 refine AW.ro ?_
 refine AW.ks [] [4, 33] ?_
 refine AW.tt h (fun hb15 h => ?_) fun hb15 h => ?_
 ·refine AW.ro ?_
  refine AW.ret ?_
  cases h; refine nz ?_; exact .same _
 refine AW.ro ?_
 refine AW.ks [] [4, 35] ?_
 refine AW.tt h (fun hb16 h => ?_) fun hb16 h => ?_
 ·refine AW.ro ?_
  refine AW.ret ?_
  cases h; refine nz ?_; exact .same _
 refine AW.ro ?_
 refine AW.ks [] [4, 37] ?_
 refine AW.tt h (fun hb17 h => ?_) fun hb17 h => ?_
 ·refine AW.ro ?_
  refine AW.ret ?_
  cases h; refine nz ?_; exact .same _
 refine AW.ro ?_
 refine AW.ks [] [4, 39] ?_
 refine AW.tt h (fun hb18 h => ?_) fun hb18 h => ?_
 ·refine AW.ro ?_
  refine AW.ret ?_
  cases h; refine nz ?_; exact .same _
 refine AW.ro ?_
 refine AW.ks [] [4, 41] ?_
 refine AW.tt h (fun hb19 h => ?_) fun hb19 h => ?_
 ·refine AW.ro ?_
  refine AW.ret ?_
  cases h; refine nz ?_; exact .same _
 refine AW.ro ?_
 refine AW.ks [] [4, 43] ?_
 refine AW.tt h (fun hb20 h => ?_) fun hb20 h => ?_
 ·refine AW.ro ?_
  refine AW.ret ?_
  cases h; refine nz ?_; exact .same _
 refine AW.ro ?_
 refine AW.ks [] [45] ?_
 refine AW.tk h (fun hb21 h => ?_) fun hb21 h => ?_
 ·refine AW.ro ?_
  refine AW.ret ?_
  cases h; refine nz ?_; exact .same _
 refine AW.kr [] [] ?_
 refine AW.ret ?_
 cases h; refine nz ?_; exact .same _
/-! ### isochrone/axiom.Get -/
def axiom_Get (K : Nat) (p0 : ByteArray) : Option (NodeA × Int) := (axiom_Text K p0).bind fun r1 =>
 if (r1.2 != (0 : Int)) then
  some ((NodeA.mk (0 : Int) (⟨#[]⟩ : ByteArray) (RatA.mk false [] []) []), r1.2)
 else
  (text_Parse K r1.1 (2 : Int)).bind fun r4 =>
  some (r4.1, r4.2.2)
set_option maxHeartbeats 4000000 in
theorem axiom_Get_ok {K : Nat} {p0 : ByteArray} {r : NodeA × Int} (h : axiom_Get K p0 = some r) : Cn Tryz.prog 14 [.d (.val (.string p0))] (.tup [aggV r.1.enc, .d (.val (.int .i64 r.2))]) := by
 refine Cn.oz Tryz.func14 Tryz.call14 Tryz.ntmps14 Tryz.results14 fun hfit => ?_
 unfold axiom_Get at h
 refine AW.kr [] [0] ?_
 refine AW.kr [0] [0, 2] ?_
 refine cm h axiom_Text_ok fun r1 hx2 h => ?_
 refine AW.ks [0] [2, 4, 5] ?_
 refine AW.one ?_
 refine AW.ro ?_
 refine AW.ks [0] [2, 4, 5, 14] ?_
 refine AW.tk h (fun hb3 h => ?_) fun hb3 h => ?_
 ·refine AW.ro ?_
  refine AW.ret ?_
  cases h; refine nz ?_; exact .tupL ⟨.aggL ⟨.same _, .same _, .same _, .nil, .nil, .nil, trivial⟩, .same _, trivial⟩
 refine AW.kr [0] [2, 4] ?_
 refine cm h text_Parse_ok fun r4 hx5 h => ?_
 refine AW.kr [0, 7] [2, 5, 6] ?_
 refine AW.ret ?_
 cases h; refine nz ?_; exact .same _
/-! ### isochrone/tree.less -/
def tree_less (K : Nat) (p0 : Bool) : Option Int := if p0 then
  some (-1 : Int)
 else
  some (1 : Int)
set_option maxHeartbeats 4000000 in
theorem tree_less_ok {K : Nat} {p0 : Bool} {r : Int} (h : tree_less K p0 = some r) : Cn Tryz.prog 118 [.d (.val (.bool p0))] (.d (.val (.int .i64 r))) := by
 refine Cn.oz Tryz.func118 Tryz.call118 Tryz.ntmps118 Tryz.results118 fun hfit => ?_
 unfold tree_less at h
 refine AW.kr [] [0] ?_
 refine AW.ks [] [0] ?_
 refine AW.one ?_
 refine AW.ro ?_
 refine AW.ks [] [3] ?_
 refine AW.tk h (fun hb1 h => ?_) fun hb1 h => ?_
 ·refine AW.ro ?_
  refine AW.ret ?_
  cases h; refine nz ?_; exact .same _
 refine AW.kr [] [] ?_
 refine AW.ret ?_
 cases h; refine nz ?_; exact .same _
/-! ### isochrone/tree.words -/
def tree_words (K : Nat) (p0 : List Int) (p1 : List Int) : Option Int := if ((p0.length : Int) != (p1.length : Int)) then
  (tree_less K (decide ((p0.length : Int) < (p1.length : Int)))).bind fun r2 =>
  some r2
 else
  ((iter (S := Int) (R := Out Unit _) K (fun again i4_0 =>
   if (decide ((0 : Int) ≤ i4_0)) then
    (idx p0 i4_0).bind fun x9 =>
    (idx p1 i4_0).bind fun x11 =>
    if (x9 != x11) then
     (tree_less K (decide (x9 < x11))).bind fun r14 =>
     outM (
      some r14)
    else
     again (IntKind.wrap .i64 (i4_0 - (1 : Int)))
   else
    some (.go ())) (IntKind.wrap .i64 ((p0.length : Int) - (1 : Int)))) : Option (Out Unit _)).bind (Out.fin fun _ =>
  some (0 : Int))
set_option maxHeartbeats 4000000 in
theorem tree_words_ok {K : Nat} {p0 : List Int} {p1 : List Int} {r : Int} (h : tree_words K p0 p1 = some r) : Cn Tryz.prog 119 [.d (slD u32V p0), .d (slD u32V p1)] (.d (.val (.int .i64 r))) := by
 refine Cn.oz Tryz.func119 Tryz.call119 Tryz.ntmps119 Tryz.results119 fun hfit => ?_
 unfold tree_words at h
 refine AW.kr [] [0, 1] ?_
 refine AW.ks [] [0, 1] ?_
 refine AW.one ?_
 refine AW.ro ?_
 refine AW.ks [] [0, 1, 10] ?_
 refine AW.tk h (fun hb1 h => ?_) fun hb1 h => ?_
 ·refine AW.ro ?_
  refine cm h tree_less_ok fun r2 hx3 h => ?_
  refine AW.ret ?_
  cases h; refine nz ?_; exact .same _
 refine AW.ks [] [0, 1] ?_
 refine AW.one ?_
 refine AW.ro ?_
 refine AW.ks [] [0, 1, 5] ?_
 refine AW.lp h (fun _ => []) (fun _ => []) (fun i4_0 => [(0, vL u32V p0), (1, vL u32V p1), (5, vI i4_0)]) (fun i4_0 => []) [] (fun oJ7 hJ7 again i4_0 h => ?_) fun ⟨⟩ h => ?_
 ·refine AW.one ?_
  refine AW.ro ?_
  refine AW.ks [] [0, 1, 5, 21] ?_
  refine AW.tt h (fun hb8 h => ?_) fun hb8 h => ?_
  ·refine AW.sk ?_
   refine AW.ks [] [0, 1, 5] ?_
   refine AW.one ?_
   refine AW.block ?_
   refine AW.ro ?_
   refine bx h fun x9 h0 h1 h => ?_
   refine bx h fun x11 h0 h1 h => ?_
   refine AW.ks [] [0, 1, 5, 32] ?_
   refine AW.tk h (fun hb13 h => ?_) fun hb13 h => ?_
   ·refine AW.ro ?_
    refine pm h tree_less_ok fun r14 hx15 h => ?_
    refine AW.ret ?_
    have h := up h hJ7
    cases h; refine nz ?_; exact .same _
   refine AW.ks [] [0, 1, 5] ?_
   refine AW.rp ?_
   exact na [] h
  refine AW.ex ?_
  exact jo [] h
 refine AW.kr [] [] ?_
 refine AW.ret ?_
 cases h; refine nz ?_; exact .same _
/-! ### isochrone/tree.Compare -/
def tree_Compare_body (K : Nat) (self94 : (NodeA × NodeA) → Option Int) (p0 : NodeA) (p1 : NodeA) : Option Int := if (p0.op != p1.op) then
  (tree_less K (decide (p0.op < p1.op))).bind fun r2 =>
  some r2
 else
  if (!(p0.name.toList == p1.name.toList)) then
   (tree_less K (Op.bytesLess p0.name.toList p1.name.toList)).bind fun r5 =>
   some r5
  else
   if (!(p0.num.neg == p1.num.neg)) then
    (tree_less K p1.num.neg).bind fun r8 =>
    some r8
   else
    (tree_words K p0.num.num p1.num.num).bind fun r10 =>
    if (r10 != (0 : Int)) then
     some r10
    else
     (tree_words K p0.num.den p1.num.den).bind fun r13 =>
     if (r13 != (0 : Int)) then
      some r13
     else
      if ((p0.kids.length : Int) != (p1.kids.length : Int)) then
       (tree_less K (decide ((p0.kids.length : Int) < (p1.kids.length : Int)))).bind fun r17 =>
       some r17
      else
       ((iter (S := Int) (R := Out Unit _) K (fun again i19_0 =>
        if (decide (i19_0 < (p0.kids.length : Int))) then
         (idx p0.kids i19_0).bind fun x24 =>
         (idx p1.kids i19_0).bind fun x26 =>
         (self94 (x24, x26)).bind fun r28 =>
         if (r28 != (0 : Int)) then
          outM (
           some r28)
         else
          again (IntKind.wrap .i64 (i19_0 + (1 : Int)))
        else
         some (.go ())) (0 : Int)) : Option (Out Unit _)).bind (Out.fin fun _ =>
       some (0 : Int))
set_option maxHeartbeats 4000000 in
theorem tree_Compare_step (K : Nat) (self94 : (NodeA × NodeA) → Option Int) (hself94 : ∀ (q : NodeA × NodeA) (r : Int), self94 q = some r → Cn Tryz.prog 94 [aggV q.1.enc, aggV q.2.enc] (.d (.val (.int .i64 r)))) (p0 : NodeA) (p1 : NodeA) (r : Int) (h : tree_Compare_body K self94 p0 p1 = some r) : Cn Tryz.prog 94 [aggV p0.enc, aggV p1.enc] (.d (.val (.int .i64 r))) := by
 refine Cn.oz Tryz.func94 Tryz.call94 Tryz.ntmps94 Tryz.results94 fun hfit => ?_
 unfold tree_Compare_body at h
 refine AW.kr [] [0, 1] ?_
 refine AW.ks [0, 1] [2, 3] ?_
 refine AW.one ?_
 refine AW.block ?_
 refine AW.ro ?_
 refine AW.ks [0, 1] [2, 3, 9] ?_
 refine AW.tt h (fun hb1 h => ?_) fun hb1 h => ?_
 ·refine AW.ro ?_
  refine cm h tree_less_ok fun r2 hx3 h => ?_
  refine AW.ret ?_
  cases h; refine nz ?_; exact .same _
 refine AW.ro ?_
 refine AW.ks [0, 1] [2, 3, 21] ?_
 refine AW.tt h (fun hb4 h => ?_) fun hb4 h => ?_
 ·refine AW.ro ?_
  refine cm h tree_less_ok fun r5 hx6 h => ?_
  refine AW.ret ?_
  cases h; refine nz ?_; exact .same _
 refine AW.ro ?_
 refine AW.ks [0, 1] [2, 3, 33] ?_
 refine AW.tk h (fun hb7 h => ?_) fun hb7 h => ?_
 ·refine AW.ro ?_
  refine cm h tree_less_ok fun r8 hx9 h => ?_
  refine AW.ret ?_
  cases h; refine nz ?_; exact .same _
 refine AW.ks [0, 1] [2, 3] ?_
 refine AW.one ?_
 refine AW.ro ?_
 refine cm h tree_words_ok fun r10 hx11 h => ?_
 refine AW.kr [0, 1] [2, 3, 5] ?_
 refine AW.ks [0, 1] [2, 3, 5, 53] ?_
 refine AW.tk h (fun hb12 h => ?_) fun hb12 h => ?_
 ·refine AW.ro ?_
  refine AW.ret ?_
  cases h; refine nz ?_; exact .same _
 refine AW.ks [0, 1] [2, 3] ?_
 refine AW.one ?_
 refine AW.ro ?_
 refine cm h tree_words_ok fun r13 hx14 h => ?_
 refine AW.kr [0, 1] [2, 3, 6] ?_
 refine AW.ks [0, 1] [2, 3, 6, 63] ?_
 refine AW.tk h (fun hb15 h => ?_) fun hb15 h => ?_
 ·refine AW.ro ?_
  refine AW.ret ?_
  cases h; refine nz ?_; exact .same _
 refine AW.ks [0, 1] [2, 3] ?_
 refine AW.one ?_
 refine AW.ro ?_
 refine AW.ks [0, 1] [2, 3, 71] ?_
 refine AW.tk h (fun hb16 h => ?_) fun hb16 h => ?_
 ·refine AW.ro ?_
  refine cm h tree_less_ok fun r17 hx18 h => ?_
  refine AW.ret ?_
  cases h; refine nz ?_; exact .same _
 refine AW.ks [0, 1] [2, 3] ?_
 refine AW.one ?_
 refine AW.ro ?_
 refine AW.ks [0, 1] [2, 3, 82, 83] ?_
 refine AW.lp h (fun _ => []) (fun _ => []) (fun i19_0 => [(2, .ptr 0 6 0 0), (3, .ptr 1 6 0 0), (82, vI (p0.kids.length : Int)), (83, vI i19_0)]) (fun i19_0 => [vE p0.enc, vE p1.enc]) [0, 1] (fun oJ22 hJ22 again i19_0 h => ?_) fun ⟨⟩ h => ?_
 ·refine AW.ro ?_
  refine AW.ks [0, 1] [2, 3, 82, 83, 84] ?_
  refine AW.one ?_
  refine AW.tt h (fun hb23 h => ?_) fun hb23 h => ?_
  ·refine AW.sk ?_
   refine AW.ks [0, 1] [2, 3, 82, 83] ?_
   refine AW.one ?_
   refine AW.block ?_
   refine AW.ro ?_
   refine AW.kr [0, 1] [2, 3, 7, 82, 83] ?_
   refine bx h fun x24 h0 h1 h => ?_
   refine bx h fun x26 h0 h1 h => ?_
   refine pm h (hself94 _ _) fun r28 hx29 h => ?_
   refine AW.kr [0, 1] [2, 3, 8, 82, 83] ?_
   refine AW.ks [0, 1] [2, 3, 8, 82, 83, 98] ?_
   refine AW.tk h (fun hb30 h => ?_) fun hb30 h => ?_
   ·refine AW.ro ?_
    refine AW.ret ?_
    have h := up h hJ22
    cases h; refine nz ?_; exact .same _
   refine AW.ks [0, 1] [2, 3, 82, 83] ?_
   refine AW.rp ?_
   exact na [0, 1] h
  refine AW.ex ?_
  exact jo [] h
 refine AW.kr [] [] ?_
 refine AW.ret ?_
 cases h; refine nz ?_; exact .same _
def tree_Compare (K : Nat) (p0 : NodeA) (p1 : NodeA) : Option Int := iter K (fun self q => tree_Compare_body K self q.1 q.2) (p0, p1)
theorem key_tree_Compare {K : Nat} (k : Nat) : (∀ (q : NodeA × NodeA) (r : Int), iter k (fun self q => tree_Compare_body K self q.1 q.2) q = some r → Cn Tryz.prog 94 [aggV q.1.enc, aggV q.2.enc] (.d (.val (.int .i64 r)))) := by
 induction k with
 | zero => exact fun q r h => by cases h
 | succ k ih => exact fun q r h => tree_Compare_step K _ ih q.1 q.2 r h
theorem tree_Compare_ok {K : Nat} {p0 : NodeA} {p1 : NodeA} {r : Int} (h : tree_Compare K p0 p1 = some r) : Cn Tryz.prog 94 [aggV p0.enc, aggV p1.enc] (.d (.val (.int .i64 r))) := (key_tree_Compare K) (p0, p1) r h
/-! ### isochrone/static.SymbolsOf$1$1 -/
def static_SymbolsOf_1_1 (K : Nat) (p0 : Int) (p1 : List NodeA) (p2 : NodeA) : Option Bool := (idx p1 p0).bind fun x1 =>
 (tree_Compare K x1 p2).bind fun r3 =>
 some (decide ((0 : Int) ≤ r3))
set_option maxHeartbeats 4000000 in
theorem static_SymbolsOf_1_1_ok {K : Nat} {p0 : Int} {p1 : List NodeA} {p2 : NodeA} {r : Bool} (h : static_SymbolsOf_1_1 K p0 p1 p2 = some r) : Cn Tryz.prog 93 [.d (.val (.int .i64 p0)), .iptr [slD NodeA.enc p1], .iptr [.val (.int .i64 p2.op), .val (.string p2.name), .val (.bool p2.num.neg), slD u32V p2.num.num, slD u32V p2.num.den, slD NodeA.enc p2.kids]] (.d (.val (.bool r))) := by
 refine Cn.oz Tryz.func93 Tryz.call93 Tryz.ntmps93 Tryz.results93 fun hfit => ?_
 unfold static_SymbolsOf_1_1 at h
 refine AW.kr [] [0, 1, 2] ?_
 refine AW.kr [] [0, 1, 2] ?_
 refine bx h fun x1 h0 h1 h => ?_
 refine pm h tree_Compare_ok fun r3 hx4 h => ?_
 refine AW.ret ?_
 cases h; refine nz ?_; exact .same _
/-! ### sort.Search -/
def sort_Search_static_SymbolsOf_1_1 (K : Nat) (p0 : Int) (p1 : List NodeA) (p2 : NodeA) : Option Int := ((iter (S := Int × Int) (R := Int) K (fun again (i1_0, i1_1) =>
  if (decide (i1_0 < i1_1)) then
   (must (decide ((0 : Int) ≤ (1 : Int)))).bind fun _ =>
   (static_SymbolsOf_1_1 K (IntKind.wrap .i64 (bShr .u64 (IntKind.wrap .u64 (IntKind.wrap .i64 (i1_0 + i1_1))) (1 : Int))) p1 p2).bind fun r7 =>
   if (!r7) then
    again (IntKind.wrap .i64 ((IntKind.wrap .i64 (bShr .u64 (IntKind.wrap .u64 (IntKind.wrap .i64 (i1_0 + i1_1))) (1 : Int))) + (1 : Int)), i1_1)
   else
    again (i1_0, IntKind.wrap .i64 (bShr .u64 (IntKind.wrap .u64 (IntKind.wrap .i64 (i1_0 + i1_1))) (1 : Int)))
  else
   some i1_0) ((0 : Int), p0)) : Option Int).bind (fun e2_0 =>
 some e2_0)
set_option maxHeartbeats 4000000 in
theorem sort_Search_static_SymbolsOf_1_1_ok {K : Nat} {p0 : Int} {p1 : List NodeA} {p2 : NodeA} {r : Int} (h : sort_Search_static_SymbolsOf_1_1 K p0 p1 p2 = some r) : Cn Tryz.prog 92 [.d (.val (.int .i64 p0)), .fn 93 [.iptr [slD NodeA.enc p1], .iptr [.val (.int .i64 p2.op), .val (.string p2.name), .val (.bool p2.num.neg), slD u32V p2.num.num, slD u32V p2.num.den, slD NodeA.enc p2.kids]]] (.d (.val (.int .i64 r))) := by
 have q0 := fun k z => cv_int (k' := k) (z := z) Tryz.underlying112 Tryz.underlying3
 have q1 := fun k z => cv_int (k' := k) (z := z) Tryz.underlying3 Tryz.underlying112
 refine Cn.oz Tryz.func92 Tryz.call92 Tryz.ntmps92 Tryz.results92 fun hfit => ?_
 unfold sort_Search_static_SymbolsOf_1_1 at h
 refine AW.kr [] [0, 1] ?_
 refine AW.kr [] [0, 1] ?_
 refine AW.ks [] [1, 5, 6] ?_
 refine AW.ln h (fun e2_0 => [(5, vI e2_0)]) (fun e2_0 => []) (fun (i1_0, i1_1) => [(1, .fn 93 [.iptr [slD NodeA.enc p1], .iptr [.val (.int .i64 p2.op), .val (.string p2.name), .val (.bool p2.num.neg), slD u32V p2.num.num, slD u32V p2.num.den, slD NodeA.enc p2.kids]]), (5, vI i1_0), (6, vI i1_1)]) (fun (i1_0, i1_1) => []) [] (fun oJ4 again ⟨i1_0, i1_1⟩ h => ?_) fun e2_0 h => ?_
 ·try dsimp only at h
  refine AW.one ?_
  refine AW.ro ?_
  refine AW.ks [] [1, 5, 6, 11] ?_
  refine AW.tt h (fun hb5 h => ?_) fun hb5 h => ?_
  ·refine AW.sk ?_
   refine AW.ks [] [1, 5, 6] ?_
   refine AW.block ?_
   refine AW.ro ?_
   apply bE h; intro _ hx6 h; have hx6 := ms hx6; refine ns ?_
   refine AW.kr [] [1, 5, 6, 7] ?_
   refine cm h static_SymbolsOf_1_1_ok fun r7 hx8 h => ?_
   refine AW.ks [] [1, 5, 6, 7, 21] ?_
   refine AW.tt h (fun hb9 h => ?_) fun hb9 h => ?_
   ·refine AW.rp ?_
    exact na [] h
   refine AW.rp ?_
   exact na [] h
  refine AW.ex ?_
  exact ja [] h
 refine AW.kr [] [5] ?_
 refine AW.ret ?_
 cases h; refine nz ?_; exact .same _
/-! ### isochrone/static.symbol -/
def static_symbol (K : Nat) (p0 : NodeA) : Option (NodeA × Bool) := ((
  ((
   if (p0.op == (10 : Int)) then
    some (p0.op == (10 : Int))
   else
    some (p0.op == (37 : Int))) : Option Bool).bind (fun v3_0 =>
  if v3_0 then
   ((
    if (decide ((0 : Int) < (p0.kids.length : Int))) then
     some [(NodeA.mk (13 : Int) (⟨#[]⟩ : ByteArray) (RatA.mk false [] []) [])]
    else
     some []) : Option (List NodeA)).bind (fun v7_0 =>
   outM (
    some ((NodeA.mk p0.op p0.name (RatA.mk false [] []) v7_0), true)))
  else
   ((
    if (p0.op == (11 : Int)) then
     some (p0.op == (11 : Int))
    else
     if (p0.op == (38 : Int)) then
      some (p0.op == (38 : Int))
     else
      if (p0.op == (61 : Int)) then
       some (p0.op == (61 : Int))
      else
       if (p0.op == (62 : Int)) then
        some (p0.op == (62 : Int))
       else
        some (p0.op == (56 : Int))) : Option Bool).bind (fun v10_0 =>
   if v10_0 then
    outM (
     some ((NodeA.mk p0.op p0.name (RatA.mk false [] []) []), true))
   else
    some (.go ())))) : Option (Out Unit _)).bind (Out.fin fun _ =>
 some ((NodeA.mk (0 : Int) (⟨#[]⟩ : ByteArray) (RatA.mk false [] []) []), false))
set_option maxHeartbeats 4000000 in
theorem static_symbol_ok {K : Nat} {p0 : NodeA} {r : NodeA × Bool} (h : static_symbol K p0 = some r) : Cn Tryz.prog 91 [aggV p0.enc] (.tup [aggV r.1.enc, .d (.val (.bool r.2))]) := by
 refine Cn.oz Tryz.func91 Tryz.call91 Tryz.ntmps91 Tryz.results91 fun hfit => ?_
 unfold static_symbol at h
 refine AW.kr [] [0] ?_
 refine AW.ks [0, 1] [1, 2] ?_
 refine AW.jo h (fun _ => [(2, .ptr 0 6 0 0)]) (fun _ => [some ⟨6, [[vI (0 : Int), vS (⟨#[]⟩ : ByteArray), vB false, .d (.val (.slice none 0 0)), .d (.val (.slice none 0 0)), .d (.val (.slice none 0 0))]]⟩]) (fun oJ2 h hJ2 => ?_) fun ⟨⟩ h => ?_
 ·refine AW.ro ?_
  refine AW.ks [0, 1] [1, 2, 6] ?_
  refine AW.block ?_
  refine AW.jn h (fun v3_0 => [(1, .ptr 0 6 0 0), (2, .ptr 1 6 0 0), (6, vI p0.op), (7, vB v3_0)]) (fun v3_0 => [vE p0.enc, some ⟨6, [[vI (0 : Int), vS (⟨#[]⟩ : ByteArray), vB false, .d (.val (.slice none 0 0)), .d (.val (.slice none 0 0)), .d (.val (.slice none 0 0))]]⟩]) (fun oJ4 h => ?_) fun v3_0 h => ?_
  ·refine AW.ro ?_
   refine AW.ks [0, 1] [1, 2, 6, 7] ?_
   refine AW.tt h (fun hb5 h => ?_) fun hb5 h => ?_
   ·refine AW.sk ?_
    exact ja [0, 1] h
   refine AW.rp ?_
   exact ja [0, 1] h
  refine AW.tt h (fun hb6 h => ?_) fun hb6 h => ?_
  ·refine AW.ro ?_
   refine AW.ks [0, 1, 7] [1, 2, 4] ?_
   refine AW.jn h (fun v7_0 => [(2, .ptr 0 6 0 0), (4, .ptr 1 6 0 0)]) (fun v7_0 => [some ⟨6, [[vI (0 : Int), vS (⟨#[]⟩ : ByteArray), vB false, .d (.val (.slice none 0 0)), .d (.val (.slice none 0 0)), .d (.val (.slice none 0 0))]]⟩, some ⟨6, [[vI p0.op, vS p0.name, vB false, .d (.val (.slice none 0 0)), .d (.val (.slice none 0 0)), vL NodeA.enc v7_0]]⟩]) (fun oJ8 h => ?_) fun v7_0 h => ?_
   ·refine AW.ro ?_
    refine AW.ks [1, 2] [2, 4, 18] ?_
    refine AW.tk h (fun hb9 h => ?_) fun hb9 h => ?_
    ·refine AW.rp ?_
     refine JoinQ.mkS [(NodeA.mk (13 : Int) (⟨#[]⟩ : ByteArray) (RatA.mk false [] []) [])] [0, 1] [] [] [(1, ⟨6, [[.d (.val (.int .i64 p0.op)), .d (.val (.string p0.name)), .d (.val (.bool false)), .d (.val (.slice none 0 0)), .d (.val (.slice none 0 0)), .d (slD NodeA.enc [(NodeA.mk (13 : Int) (⟨#[]⟩ : ByteArray) (RatA.mk false [] []) [])])]]⟩)] (Option.some.inj h) (by simp only [go_sem, reduceEqDiff, reduceAdd, reduceSub, reduceMul, reduceLeDiff, reduceLT, Nat.reduceBEq, reduceIte, sealL_cons, sealL_nil]) (by simp only [go_sem, reduceEqDiff, reduceAdd, reduceSub, reduceMul, reduceLeDiff, reduceLT, Nat.reduceBEq, reduceIte, sealH_cons, sealH_nil]; exact ⟨⟨.same _, .same _, .same _, .same _, .same _, .d (.dn (.rows (by (try simp only [slD, NodeA.enc_eta, RatA.enc_eta, NodeA.op_mk, NodeA.name_mk, NodeA.num_mk, NodeA.kids_mk, aggV, i64V, u32V, strV, List.map_cons, List.map_nil]); exact ⟨⟨.refl _, .refl _, .refl _, .nil _ _, .nil _ _, .nil _ _, trivial⟩, trivial⟩))), trivial⟩, trivial⟩) (by simp only [go_sem, reduceEqDiff, reduceAdd, reduceSub, reduceMul, reduceLeDiff, reduceLT, Nat.reduceBEq, reduceIte])
    refine JoinQ.mkS [] [0, 1] [] [] [(1, ⟨6, [[.d (.val (.int .i64 p0.op)), .d (.val (.string p0.name)), .d (.val (.bool false)), .d (.val (.slice none 0 0)), .d (.val (.slice none 0 0)), .d (slD NodeA.enc [])]]⟩)] (Option.some.inj h) (by simp only [go_sem, reduceEqDiff, reduceAdd, reduceSub, reduceMul, reduceLeDiff, reduceLT, Nat.reduceBEq, reduceIte, sealL_cons, sealL_nil]) (by simp only [go_sem, reduceEqDiff, reduceAdd, reduceSub, reduceMul, reduceLeDiff, reduceLT, Nat.reduceBEq, reduceIte, sealH_cons, sealH_nil]; exact ⟨⟨.same _, .same _, .same _, .same _, .same _, .nil, trivial⟩, trivial⟩) (by simp only [go_sem, reduceEqDiff, reduceAdd, reduceSub, reduceMul, reduceLeDiff, reduceLT, Nat.reduceBEq, reduceIte])
   refine AW.ro ?_
   refine AW.ret ?_
   have h := up h hJ2
   cases h; refine nz ?_; exact .tupL ⟨.aggL ⟨.same _, .same _, .same _, .nil, .nil, .same _, trivial⟩, .same _, trivial⟩
  refine AW.jn h (fun v10_0 => [(1, .ptr 0 6 0 0), (2, .ptr 1 6 0 0), (23, vB v10_0)]) (fun v10_0 => [vE p0.enc, some ⟨6, [[vI (0 : Int), vS (⟨#[]⟩ : ByteArray), vB false, .d (.val (.slice none 0 0)), .d (.val (.slice none 0 0)), .d (.val (.slice none 0 0))]]⟩]) (fun oJ11 h => ?_) fun v10_0 h => ?_
  ·refine AW.ro ?_
   refine AW.ks [0, 1] [1, 2, 6, 23] ?_
   refine AW.tt h (fun hb12 h => ?_) fun hb12 h => ?_
   ·refine AW.sk ?_
    exact ja [0, 1] h
   refine AW.ro ?_
   refine AW.ks [0, 1] [1, 2, 6, 23] ?_
   refine AW.tt h (fun hb13 h => ?_) fun hb13 h => ?_
   ·refine AW.sk ?_
    exact ja [0, 1] h
   refine AW.ro ?_
   refine AW.ks [0, 1] [1, 2, 6, 23] ?_
   refine AW.tt h (fun hb14 h => ?_) fun hb14 h => ?_
   ·refine AW.sk ?_
    exact ja [0, 1] h
   refine AW.ro ?_
   refine AW.ks [0, 1] [1, 2, 6, 23] ?_
   refine AW.tt h (fun hb15 h => ?_) fun hb15 h => ?_
   ·refine AW.sk ?_
    exact ja [0, 1] h
   refine AW.rp ?_
   exact ja [0, 1] h
  refine AW.tk h (fun hb16 h => ?_) fun hb16 h => ?_
  ·refine AW.ro ?_
   refine AW.ret ?_
   have h := up h hJ2
   cases h; refine nz ?_; exact .tupL ⟨.aggL ⟨.same _, .same _, .same _, .nil, .nil, .nil, trivial⟩, .same _, trivial⟩
  exact jo [1] h
 refine AW.ro ?_
 refine AW.ret ?_
 cases h; refine nz ?_; exact .tupL ⟨.aggL ⟨.same _, .same _, .same _, .nil, .nil, .nil, trivial⟩, .same _, trivial⟩
/-! ### isochrone/tree.Equal -/
def tree_Equal (K : Nat) (p0 : NodeA) (p1 : NodeA) : Option Bool := (tree_Compare K p0 p1).bind fun r1 =>
 some (r1 == (0 : Int))
set_option maxHeartbeats 4000000 in
theorem tree_Equal_ok {K : Nat} {p0 : NodeA} {p1 : NodeA} {r : Bool} (h : tree_Equal K p0 p1 = some r) : Cn Tryz.prog 95 [aggV p0.enc, aggV p1.enc] (.d (.val (.bool r))) := by
 refine Cn.oz Tryz.func95 Tryz.call95 Tryz.ntmps95 Tryz.results95 fun hfit => ?_
 unfold tree_Equal at h
 refine AW.kr [] [0, 1] ?_
 refine AW.kr [0, 1] [2, 3] ?_
 refine cm h tree_Compare_ok fun r1 hx2 h => ?_
 refine AW.ret ?_
 cases h; refine nz ?_; exact .same _
/-! ### isochrone/static.SymbolsOf$1 -/
def static_SymbolsOf_1_body (K : Nat) (self90 : (NodeA × (Option (List NodeA))) → Option (Option (List NodeA))) (p0 : NodeA) (p1 : Option (List NodeA)) : Option (Option (List NodeA)) := ((
  (static_symbol K p0).bind fun r3 =>
  if r3.2 then
   (sort_Search_static_SymbolsOf_1_1 K ((p1.getD []).length : Int) (p1.getD []) r3.1).bind fun r6 =>
   ((
    if (r6 == ((p1.getD []).length : Int)) then
     some true
    else
     (idx (p1.getD []) r6).bind fun x11 =>
     (tree_Equal K x11 r3.1).bind fun r13 =>
     some (!r13)) : Option Bool).bind (fun v8_0 =>
   if v8_0 then
    (appO 104 (p1.getD []) [(NodeA.mk (0 : Int) (⟨#[]⟩ : ByteArray) (RatA.mk false [] []) [])]).bind fun l16 =>
    (idx l16 ((p1.getD []).length : Int)).bind fun x18 =>
    (subO (some (l16.set ((p1.getD []).length) (NodeA.mk (0 : Int) (⟨#[]⟩ : ByteArray) (RatA.mk false [] []) []))) (IntKind.wrap .i64 (r6 + (1 : Int)))).bind fun l21 =>
    (subO (some (l16.set ((p1.getD []).length) (NodeA.mk (0 : Int) (⟨#[]⟩ : ByteArray) (RatA.mk false [] []) []))) r6).bind fun l23 =>
    (idx (cpyL (l16.set ((p1.getD []).length) (NodeA.mk (0 : Int) (⟨#[]⟩ : ByteArray) (RatA.mk false [] []) [])) (IntKind.wrap .i64 (r6 + (1 : Int))) l21 l23) r6).bind fun x24 =>
    some (some ((cpyL (l16.set ((p1.getD []).length) (NodeA.mk (0 : Int) (⟨#[]⟩ : ByteArray) (RatA.mk false [] []) [])) (IntKind.wrap .i64 (r6 + (1 : Int))) l21 l23).set (r6.toNat) r3.1))
   else
    some p1)
  else
   some p1) : Option (Option (List NodeA))).bind (fun v1_0 =>
 ((iter (S := Int × (Option (List NodeA))) (R := (Option (List NodeA))) K (fun again (i26_0, i26_1) =>
  if (decide (i26_0 < (p0.kids.length : Int))) then
   (idx p0.kids i26_0).bind fun x31 =>
   (self90 (x31, i26_1)).bind fun r33 =>
   again (IntKind.wrap .i64 (i26_0 + (1 : Int)), r33)
  else
   some i26_1) ((0 : Int), v1_0)) : Option (Option (List NodeA))).bind (fun e27_0 =>
 some e27_0))
set_option maxHeartbeats 4000000 in
theorem static_SymbolsOf_1_step (K : Nat) (self90 : (NodeA × (Option (List NodeA))) → Option (Option (List NodeA))) (hself90 : ∀ (q : NodeA × (Option (List NodeA))) (r : (Option (List NodeA))), self90 q = some r → Cm Tryz.prog 90 [aggV q.1.enc, .ptr 0 1 0 0, .ptr 1 1 0 0] 2 ([some ⟨1, [[gV 2 6 q.2]]⟩, some ⟨1, [[.fn 90 [.ptr 0 1 0 0, .ptr 1 1 0 0]]]⟩] ++ [gO NodeA.enc 6 q.2]) (.tup []) ([some ⟨1, [[gV 2 6 r]]⟩, some ⟨1, [[.fn 90 [.ptr 0 1 0 0, .ptr 1 1 0 0]]]⟩] ++ [gO NodeA.enc 6 r])) (p0 : NodeA) (p1 : Option (List NodeA)) (r : (Option (List NodeA))) (h : static_SymbolsOf_1_body K self90 p0 p1 = some r) : Cm Tryz.prog 90 [aggV p0.enc, .ptr 0 1 0 0, .ptr 1 1 0 0] 2 ([some ⟨1, [[gV 2 6 p1]]⟩, some ⟨1, [[.fn 90 [.ptr 0 1 0 0, .ptr 1 1 0 0]]]⟩] ++ [gO NodeA.enc 6 p1]) (.tup []) ([some ⟨1, [[gV 2 6 r]]⟩, some ⟨1, [[.fn 90 [.ptr 0 1 0 0, .ptr 1 1 0 0]]]⟩] ++ [gO NodeA.enc 6 r]) := by
 refine Cm.ofA mixed Tryz.func90 rfl Tryz.call90 Tryz.ntmps90 Tryz.results90 (by simp) rfl rfl (by simp only [go_sem, reduceEqDiff, reduceAdd, reduceSub, reduceMul, reduceLeDiff, reduceLT, Nat.reduceBEq, reduceIte, List.length_cons]) (by simp only [go_sem, reduceEqDiff, reduceAdd, reduceSub, reduceMul, reduceLeDiff, reduceLT, Nat.reduceBEq, reduceIte]) (by simp only [go_sem, reduceEqDiff, reduceAdd, reduceSub, reduceMul, reduceLeDiff, reduceLT, Nat.reduceBEq, reduceIte]) (by simp only [go_sem, reduceEqDiff, reduceAdd, reduceSub, reduceMul, reduceLeDiff, reduceLT, Nat.reduceBEq, reduceIte]) datO_g datO_g fun hfit => ?_
 unfold static_SymbolsOf_1_body at h
 refine AW.cu [0, 1, 2] [(0, .agg [.d (.val (.int .i64 p0.op)), .d (.val (.string p0.name)), .d (.val (.bool p0.num.neg)), .d (slD u32V p0.num.num), .d (slD u32V p0.num.den), .d (slD NodeA.enc p0.kids)]), (1, .ptr 0 1 0 0), (2, .ptr 1 1 0 0)] [some ⟨1, [[gV 2 6 p1]]⟩, some ⟨1, [[.fn 90 [.ptr 0 1 0 0, .ptr 1 1 0 0]]]⟩, gO NodeA.enc 6 p1] ?_
 refine AW.op mixed ?_
 refine AW.cu [0, 1, 2, 3] [(1, .ptr 0 1 0 0), (2, .ptr 1 1 0 0), (3, .ptr 3 6 0 0)] [some ⟨1, [[gV 2 6 p1]]⟩, some ⟨1, [[.fn 90 [.ptr 0 1 0 0, .ptr 1 1 0 0]]]⟩, gO NodeA.enc 6 p1, some ⟨6, [[.d (.val (.int .i64 p0.op)), .d (.val (.string p0.name)), .d (.val (.bool p0.num.neg)), .d (slD u32V p0.num.num), .d (slD u32V p0.num.den), .d (slD NodeA.enc p0.kids)]]⟩] ?_
 refine AW.one ?_
 refine obindE h fun oJ2 h hJ2 => ?_
 refine AW.join (S := (Option (List NodeA))) (fun v1_0 => [(2, .ptr 1 1 0 0), (3, .ptr 2 6 0 0)]) (fun v1_0 => [some ⟨1, [[gV 3 6 v1_0]]⟩, some ⟨1, [[.fn 90 [.ptr 0 1 0 0, .ptr 1 1 0 0]]]⟩, some ⟨6, [[.d (.val (.int .i64 p0.op)), .d (.val (.string p0.name)), .d (.val (.bool p0.num.neg)), .d (slD u32V p0.num.num), .d (slD u32V p0.num.den), .d (slD NodeA.enc p0.kids)]]⟩, gO NodeA.enc 6 v1_0]) (fun x => x = oJ2) ?_ ?_
 ·skip
  refine AW.op mixed ?_
  apply obindE h; intro r3 hx4 h
  have hc := nx (static_symbol_ok (h := hx4))
  refine callP hc ?_
  refine AW.cu [0, 1, 2, 3, 9] [(1, .ptr 0 1 0 0), (2, .ptr 1 1 0 0), (3, .ptr 3 6 0 0), (4, .ptr 4 6 0 0), (5, .d (.val (.bool r3.2)))] [some ⟨1, [[gV 2 6 p1]]⟩, some ⟨1, [[.fn 90 [.ptr 0 1 0 0, .ptr 1 1 0 0]]]⟩, gO NodeA.enc 6 p1, some ⟨6, [[.d (.val (.int .i64 p0.op)), .d (.val (.string p0.name)), .d (.val (.bool p0.num.neg)), .d (slD u32V p0.num.num), .d (slD u32V p0.num.den), .d (slD NodeA.enc p0.kids)]]⟩, some ⟨6, [[.d (.val (.int .i64 r3.1.op)), .d (.val (.string r3.1.name)), .d (.val (.bool r3.1.num.neg)), .d (slD u32V r3.1.num.num), .d (slD u32V r3.1.num.den), .d (slD NodeA.enc r3.1.kids)]]⟩] ?_
  refine AW.op mixed ?_
  refine AW.cu [0, 1, 2, 3, 4] [(1, .ptr 0 1 0 0), (2, .ptr 1 1 0 0), (3, .ptr 3 6 0 0), (4, .ptr 4 6 0 0), (14, .d (.val (.bool r3.2)))] [some ⟨1, [[gV 2 6 p1]]⟩, some ⟨1, [[.fn 90 [.ptr 0 1 0 0, .ptr 1 1 0 0]]]⟩, gO NodeA.enc 6 p1, some ⟨6, [[.d (.val (.int .i64 p0.op)), .d (.val (.string p0.name)), .d (.val (.bool p0.num.neg)), .d (slD u32V p0.num.num), .d (slD u32V p0.num.den), .d (slD NodeA.enc p0.kids)]]⟩, some ⟨6, [[.d (.val (.int .i64 r3.1.op)), .d (.val (.string r3.1.name)), .d (.val (.bool r3.1.num.neg)), .d (slD u32V r3.1.num.num), .d (slD u32V r3.1.num.den), .d (slD NodeA.enc r3.1.kids)]]⟩] ?_
  refine AW.ts r3.2 (fun hb5 => ?_) (fun hb5 => ?_)
  ·have h := ifT hb5 h
   refine AW.op mixed ?_
   apply obindE h; intro r6 hx7 h
   have hc := nx (sort_Search_static_SymbolsOf_1_1_ok (h := hx7))
   refine callK_look hc ⟨.same _, .fnL ⟨sealPtrG (o := 2) (n := 6) (x := p1) (by simp only [go_sem, reduceEqDiff, reduceAdd, reduceSub, reduceMul, reduceLeDiff, reduceLT, Nat.reduceBEq, reduceIte]) (by simp only [go_sem, reduceEqDiff, reduceAdd, reduceSub, reduceMul, reduceLeDiff, reduceLT, Nat.reduceBEq, reduceIte]), sealPtr (by simp only [go_sem, reduceEqDiff, reduceAdd, reduceSub, reduceMul, reduceLeDiff, reduceLT, Nat.reduceBEq, reduceIte]), trivial⟩, trivial⟩ (by simp only [go_sem, reduceEqDiff, reduceAdd, reduceSub, reduceMul, reduceLeDiff, reduceLT, Nat.reduceBEq, reduceIte]) (by simp [V.flat, V.flatL]) ?_
   try simp only [go_sem, reduceEqDiff, reduceAdd, reduceSub, reduceMul, reduceLeDiff, reduceLT, Nat.reduceBEq, reduceIte]
   refine AW.cu [0, 1, 2, 3, 4] [(1, .ptr 0 1 0 0), (2, .ptr 1 1 0 0), (3, .ptr 3 6 0 0), (4, .ptr 4 6 0 0), (6, .d (.val (.int .i64 r6)))] [some ⟨1, [[gV 2 6 p1]]⟩, some ⟨1, [[.fn 90 [.ptr 0 1 0 0, .ptr 1 1 0 0]]]⟩, gO NodeA.enc 6 p1, some ⟨6, [[.d (.val (.int .i64 p0.op)), .d (.val (.string p0.name)), .d (.val (.bool p0.num.neg)), .d (slD u32V p0.num.num), .d (slD u32V p0.num.den), .d (slD NodeA.enc p0.kids)]]⟩, some ⟨6, [[.d (.val (.int .i64 r3.1.op)), .d (.val (.string r3.1.name)), .d (.val (.bool r3.1.num.neg)), .d (slD u32V r3.1.num.num), .d (slD u32V r3.1.num.den), .d (slD NodeA.enc r3.1.kids)]]⟩] ?_
   refine AW.one ?_
   refine obindE h fun oJ9 h hJ9 => ?_
   refine AW.join (S := Bool) (fun v8_0 => [(1, .ptr 0 1 0 0), (2, .ptr 1 1 0 0), (3, .ptr 2 6 0 0), (4, .ptr 3 6 0 0), (6, .d (.val (.int .i64 r6))), (31, .d (.val (.bool v8_0)))]) (fun v8_0 => [some ⟨1, [[gV 4 6 p1]]⟩, some ⟨1, [[.fn 90 [.ptr 0 1 0 0, .ptr 1 1 0 0]]]⟩, some ⟨6, [[.d (.val (.int .i64 p0.op)), .d (.val (.string p0.name)), .d (.val (.bool p0.num.neg)), .d (slD u32V p0.num.num), .d (slD u32V p0.num.den), .d (slD NodeA.enc p0.kids)]]⟩, some ⟨6, [[.d (.val (.int .i64 r3.1.op)), .d (.val (.string r3.1.name)), .d (.val (.bool r3.1.num.neg)), .d (slD u32V r3.1.num.num), .d (slD u32V r3.1.num.den), .d (slD NodeA.enc r3.1.kids)]]⟩, gO NodeA.enc 6 p1]) (fun x => x = oJ9) ?_ ?_
   ·skip
    refine AW.rg mixed ?_
    refine splitK_intro (fun hb10 => ?_) (fun hb10 => ?_)
    ·have h := ifT hb10 h
     try simp only [go_sem, reduceEqDiff, reduceAdd, reduceSub, reduceMul, reduceLeDiff, reduceLT, Nat.reduceBEq, reduceIte, hb10]
     refine JoinQ.mk true [0, 1, 3, 4, 2] (Option.some.inj h) (by simp only [go_sem, reduceEqDiff, reduceAdd, reduceSub, reduceMul, reduceLeDiff, reduceLT, Nat.reduceBEq, reduceIte, hb10])
    have h := ifF hb10 h
    try simp only [go_sem, reduceEqDiff, reduceAdd, reduceSub, reduceMul, reduceLeDiff, reduceLT, Nat.reduceBEq, reduceIte, hb10]
    apply obindE h; intro x11 hx12 h
    try simp only [go_sem, reduceEqDiff, reduceAdd, reduceSub, reduceMul, reduceLeDiff, reduceLT, Nat.reduceBEq, reduceIte, hb10, (idx_some hx12).1, idx_lt hx12, (idx_some hx12).2, gV_idx (x := p1) hx12, gO_idx (x := p1) hx12]
    apply obindE h; intro r13 hx14 h
    have hc := nx (tree_Equal_ok (h := hx14))
    refine pcallK_intro hc (by simp only [go_sem, reduceEqDiff, reduceAdd, reduceSub, reduceMul, reduceLeDiff, reduceLT, Nat.reduceBEq, reduceIte]) ?_
    try simp only [go_sem, reduceEqDiff, reduceAdd, reduceSub, reduceMul, reduceLeDiff, reduceLT, Nat.reduceBEq, reduceIte, hb10, (idx_some hx12).1, idx_lt hx12, (idx_some hx12).2, gV_idx (x := p1) hx12, gO_idx (x := p1) hx12]
    try simp only [gV_idx (x := p1) hx12, gO_idx (x := p1) hx12]
    refine JoinQ.mk (!r13) [0, 1, 3, 4, 2] (Option.some.inj h) (by simp only [go_sem, reduceEqDiff, reduceAdd, reduceSub, reduceMul, reduceLeDiff, reduceLT, Nat.reduceBEq, reduceIte, hb10, (idx_some hx12).1, idx_lt hx12, (idx_some hx12).2, gV_idx (x := p1) hx12, gO_idx (x := p1) hx12])
   rintro v8_0 rfl
   have h := hJ9
   try dsimp only [Out.fin] at h
   refine nz ?_
   refine AW.ts v8_0 (fun hb15 => ?_) (fun hb15 => ?_)
   ·have h := ifT hb15 h
    refine AW.one ?_
    refine AW.reg2 (xp := .tmp 37) (xq := .tmp 1) mixed (by kernel_rfl) rfl rfl ?_
    try simp only [go_sem, reduceEqDiff, reduceAdd, reduceSub, reduceMul, reduceLeDiff, reduceLT, Nat.reduceBEq, reduceIte]
    apply obindE h; intro l16 hx17 h
    refine appNil (b := .sl [[.val (.int .i64 (0 : Int)), .val (.string (⟨#[]⟩ : ByteArray)), .val (.bool false), slD u32V [], slD u32V [], slD NodeA.enc []]]) (.rows (by (try simp only [slD, NodeA.enc_eta, RatA.enc_eta, NodeA.op_mk, NodeA.name_mk, NodeA.num_mk, NodeA.kids_mk, aggV, i64V, u32V, strV, List.map_cons, List.map_nil]); exact ⟨⟨.refl _, .refl _, .refl _, .nil _ _, .nil _ _, .nil _ _, trivial⟩, trivial⟩)) ?_
    refine appX (f := NodeA.enc) (x := p1) hx17 rfl (by simp only [go_sem, reduceEqDiff, reduceAdd, reduceSub, reduceMul, reduceLeDiff, reduceLT, Nat.reduceBEq, reduceIte]) (by simp only [go_sem, reduceEqDiff, reduceAdd, reduceSub, reduceMul, reduceLeDiff, reduceLT, Nat.reduceBEq, reduceIte]) (by simp only [go_sem, reduceEqDiff, reduceAdd, reduceSub, reduceMul, reduceLeDiff, reduceLT, Nat.reduceBEq, reduceIte]) (by simp) ?_
    try simp only [go_sem, reduceEqDiff, reduceAdd, reduceSub, reduceMul, reduceLeDiff, reduceLT, Nat.reduceBEq, reduceIte]
    apply obindE h; intro x18 hx19 h
    try simp only [go_sem, reduceEqDiff, reduceAdd, reduceSub, reduceMul, reduceLeDiff, reduceLT, Nat.reduceBEq, reduceIte, (idx_some hx19).1, idx_lt hx19, (idx_nat.symm.trans hx19), gV_idx (x := (some l16)) hx19, gO_idx (x := (some l16)) hx19]
    refine AW.cutS [0, 1, 9, 2, 3] [] [] [(9, ⟨6, ((l16.set ((p1.getD []).length) (NodeA.mk (0 : Int) (⟨#[]⟩ : ByteArray) (RatA.mk false [] []) [])).map NodeA.enc).map (·.map .d)⟩)] [(1, .ptr 0 1 0 0), (2, .ptr 1 1 0 0), (3, .ptr 3 6 0 0), (4, .ptr 4 6 0 0), (6, .d (.val (.int .i64 r6)))] [some ⟨1, [[gV 2 6 (some (l16.set ((p1.getD []).length) (NodeA.mk (0 : Int) (⟨#[]⟩ : ByteArray) (RatA.mk false [] []) [])))]]⟩, some ⟨1, [[.fn 90 [.ptr 0 1 0 0, .ptr 1 1 0 0]]]⟩, gO NodeA.enc 6 (some (l16.set ((p1.getD []).length) (NodeA.mk (0 : Int) (⟨#[]⟩ : ByteArray) (RatA.mk false [] []) []))), some ⟨6, [[.d (.val (.int .i64 p0.op)), .d (.val (.string p0.name)), .d (.val (.bool p0.num.neg)), .d (slD u32V p0.num.num), .d (slD u32V p0.num.den), .d (slD NodeA.enc p0.kids)]]⟩, some ⟨6, [[.d (.val (.int .i64 r3.1.op)), .d (.val (.string r3.1.name)), .d (.val (.bool r3.1.num.neg)), .d (slD u32V r3.1.num.num), .d (slD u32V r3.1.num.den), .d (slD NodeA.enc r3.1.kids)]]⟩] (by simp only [go_sem, reduceEqDiff, reduceAdd, reduceSub, reduceMul, reduceLeDiff, reduceLT, Nat.reduceBEq, reduceIte, (idx_some hx19).1, idx_lt hx19, (idx_nat.symm.trans hx19), gV_idx (x := (some l16)) hx19, gO_idx (x := (some l16)) hx19, gV_some, gO_some, List.length_set, sealL_cons, sealL_nil]) (by simp only [go_sem, reduceEqDiff, reduceAdd, reduceSub, reduceMul, reduceLeDiff, reduceLT, Nat.reduceBEq, reduceIte, (idx_some hx19).1, idx_lt hx19, (idx_nat.symm.trans hx19), gV_idx (x := (some l16)) hx19, gO_idx (x := (some l16)) hx19, gV_some, gO_some, List.length_set, sealH_cons, sealH_nil]; exact sealSetE (by (try simp only [slD, NodeA.enc_eta, RatA.enc_eta, NodeA.op_mk, NodeA.name_mk, NodeA.num_mk, NodeA.kids_mk, aggV, i64V, u32V, strV, List.map_cons, List.map_nil]); exact ⟨.same _, .same _, .same _, .nil, .nil, .nil, trivial⟩)) (by simp only [go_sem, reduceEqDiff, reduceAdd, reduceSub, reduceMul, reduceLeDiff, reduceLT, Nat.reduceBEq, reduceIte, (idx_some hx19).1, idx_lt hx19, (idx_nat.symm.trans hx19), gV_idx (x := (some l16)) hx19, gO_idx (x := (some l16)) hx19, gV_some, gO_some, List.length_set]) ?_
    refine AW.op mixed ?_
    apply obindE h; intro l21 hx20 h
    refine subX (x := (some (l16.set ((p1.getD []).length) (NodeA.mk (0 : Int) (⟨#[]⟩ : ByteArray) (RatA.mk false [] []) [])))) hx20 es29 ?_
    try simp only [go_sem, reduceEqDiff, reduceAdd, reduceSub, reduceMul, reduceLeDiff, reduceLT, Nat.reduceBEq, reduceIte]
    apply obindE h; intro l23 hx22 h
    refine subX (x := (some (l16.set ((p1.getD []).length) (NodeA.mk (0 : Int) (⟨#[]⟩ : ByteArray) (RatA.mk false [] []) [])))) hx22 es29 ?_
    try simp only [go_sem, reduceEqDiff, reduceAdd, reduceSub, reduceMul, reduceLeDiff, reduceLT, Nat.reduceBEq, reduceIte]
    refine cpyX (x := (some (l16.set ((p1.getD []).length) (NodeA.mk (0 : Int) (⟨#[]⟩ : ByteArray) (RatA.mk false [] []) [])))) (f := NodeA.enc) hx20 hx22 (by simp only [go_sem, reduceEqDiff, reduceAdd, reduceSub, reduceMul, reduceLeDiff, reduceLT, Nat.reduceBEq, reduceIte]) fun _ => ?_
    try simp only [go_sem, reduceEqDiff, reduceAdd, reduceSub, reduceMul, reduceLeDiff, reduceLT, Nat.reduceBEq, reduceIte, gV_cpy hx20]
    refine AW.cut [0, 1, 2, 3, 4] [(1, .ptr 0 1 0 0), (2, .ptr 1 1 0 0), (3, .ptr 3 6 0 0), (4, .ptr 4 6 0 0), (6, .d (.val (.int .i64 r6)))] [some ⟨1, [[gV 2 6 (some (cpyL (l16.set ((p1.getD []).length) (NodeA.mk (0 : Int) (⟨#[]⟩ : ByteArray) (RatA.mk false [] []) [])) (IntKind.wrap .i64 (r6 + (1 : Int))) l21 l23))]]⟩, some ⟨1, [[.fn 90 [.ptr 0 1 0 0, .ptr 1 1 0 0]]]⟩, gO NodeA.enc 6 (some (cpyL (l16.set ((p1.getD []).length) (NodeA.mk (0 : Int) (⟨#[]⟩ : ByteArray) (RatA.mk false [] []) [])) (IntKind.wrap .i64 (r6 + (1 : Int))) l21 l23)), some ⟨6, [[.d (.val (.int .i64 p0.op)), .d (.val (.string p0.name)), .d (.val (.bool p0.num.neg)), .d (slD u32V p0.num.num), .d (slD u32V p0.num.den), .d (slD NodeA.enc p0.kids)]]⟩, some ⟨6, [[.d (.val (.int .i64 r3.1.op)), .d (.val (.string r3.1.name)), .d (.val (.bool r3.1.num.neg)), .d (slD u32V r3.1.num.num), .d (slD u32V r3.1.num.den), .d (slD NodeA.enc r3.1.kids)]]⟩] (by simp only [go_sem, reduceEqDiff, reduceAdd, reduceSub, reduceMul, reduceLeDiff, reduceLT, Nat.reduceBEq, reduceIte, gV_cpy hx20]) ?_
    refine AW.rg mixed ?_
    apply obindE h; intro x24 hx25 h
    try simp only [go_sem, reduceEqDiff, reduceAdd, reduceSub, reduceMul, reduceLeDiff, reduceLT, Nat.reduceBEq, reduceIte, (idx_some hx25).1, idx_lt hx25, (idx_some hx25).2, gV_idx (x := (some (cpyL (l16.set ((p1.getD []).length) (NodeA.mk (0 : Int) (⟨#[]⟩ : ByteArray) (RatA.mk false [] []) [])) (IntKind.wrap .i64 (r6 + (1 : Int))) l21 l23))) hx25, gO_idx (x := (some (cpyL (l16.set ((p1.getD []).length) (NodeA.mk (0 : Int) (⟨#[]⟩ : ByteArray) (RatA.mk false [] []) [])) (IntKind.wrap .i64 (r6 + (1 : Int))) l21 l23))) hx25, gV_some, gO_some, List.length_set, (rows_set (l := (cpyL (l16.set ((p1.getD []).length) (NodeA.mk (0 : Int) (⟨#[]⟩ : ByteArray) (RatA.mk false [] []) [])) (IntKind.wrap .i64 (r6 + (1 : Int))) l21 l23)) (f := NodeA.enc) (i := r6.toNat) (v' := r3.1) (row := [.d (.val (.int .i64 r3.1.op)), .d (.val (.string r3.1.name)), .d (.val (.bool r3.1.num.neg)), .d (slD u32V r3.1.num.num), .d (slD u32V r3.1.num.den), .d (slD NodeA.enc r3.1.kids)]) (by simp only [go_sem, reduceEqDiff, reduceAdd, reduceSub, reduceMul, reduceLeDiff, reduceLT, Nat.reduceBEq, reduceIte]))]
    try simp only [gV_idx (x := (some l16)) hx19, gO_idx (x := (some l16)) hx19, gV_some, gO_some, List.length_set, gV_idx (x := (some (cpyL (l16.set ((p1.getD []).length) (NodeA.mk (0 : Int) (⟨#[]⟩ : ByteArray) (RatA.mk false [] []) [])) (IntKind.wrap .i64 (r6 + (1 : Int))) l21 l23))) hx25, gO_idx (x := (some (cpyL (l16.set ((p1.getD []).length) (NodeA.mk (0 : Int) (⟨#[]⟩ : ByteArray) (RatA.mk false [] []) [])) (IntKind.wrap .i64 (r6 + (1 : Int))) l21 l23))) hx25]
    refine JoinQ.mk (some ((cpyL (l16.set ((p1.getD []).length) (NodeA.mk (0 : Int) (⟨#[]⟩ : ByteArray) (RatA.mk false [] []) [])) (IntKind.wrap .i64 (r6 + (1 : Int))) l21 l23).set (r6.toNat) r3.1)) [0, 1, 3, 2] (Option.some.inj h) (by simp only [go_sem, reduceEqDiff, reduceAdd, reduceSub, reduceMul, reduceLeDiff, reduceLT, Nat.reduceBEq, reduceIte, (idx_some hx25).1, idx_lt hx25, (idx_some hx25).2, gV_idx (x := (some (cpyL (l16.set ((p1.getD []).length) (NodeA.mk (0 : Int) (⟨#[]⟩ : ByteArray) (RatA.mk false [] []) [])) (IntKind.wrap .i64 (r6 + (1 : Int))) l21 l23))) hx25, gO_idx (x := (some (cpyL (l16.set ((p1.getD []).length) (NodeA.mk (0 : Int) (⟨#[]⟩ : ByteArray) (RatA.mk false [] []) [])) (IntKind.wrap .i64 (r6 + (1 : Int))) l21 l23))) hx25, gV_some, gO_some, List.length_set, (rows_set (l := (cpyL (l16.set ((p1.getD []).length) (NodeA.mk (0 : Int) (⟨#[]⟩ : ByteArray) (RatA.mk false [] []) [])) (IntKind.wrap .i64 (r6 + (1 : Int))) l21 l23)) (f := NodeA.enc) (i := r6.toNat) (v' := r3.1) (row := [.d (.val (.int .i64 r3.1.op)), .d (.val (.string r3.1.name)), .d (.val (.bool r3.1.num.neg)), .d (slD u32V r3.1.num.num), .d (slD u32V r3.1.num.den), .d (slD NodeA.enc r3.1.kids)]) (by simp only [go_sem, reduceEqDiff, reduceAdd, reduceSub, reduceMul, reduceLeDiff, reduceLT, Nat.reduceBEq, reduceIte]))])
   have h := ifF hb15 h
   refine AW.sk ?_
   exact JoinQ.ar p1 [0, 1, 2, 4] (Option.some.inj h)
  have h := ifF hb5 h
  refine AW.sk ?_
  exact JoinQ.ar p1 [0, 1, 3, 2] (Option.some.inj h)
 rintro v1_0 rfl
 have h := hJ2
 try dsimp only [Out.fin] at h
 refine nz ?_
 refine AW.op mixed ?_
 refine AW.cu [0, 1, 3] [(2, .ptr 1 1 0 0), (51, .d (slD NodeA.enc p0.kids)), (52, .d (.val (.int .i64 (p0.kids.length : Int)))), (53, .d (.val (.int .i64 (0 : Int))))] [some ⟨1, [[gV 2 6 v1_0]]⟩, some ⟨1, [[.fn 90 [.ptr 0 1 0 0, .ptr 1 1 0 0]]]⟩, gO NodeA.enc 6 v1_0] ?_
 refine obindE h fun oJ29 h hJ29 => ?_
 refine AW.join (S := (Option (List NodeA))) (fun e27_0 => []) (fun e27_0 => [some ⟨1, [[gV 2 6 e27_0]]⟩, some ⟨1, [[.fn 90 [.ptr 0 1 0 0, .ptr 1 1 0 0]]]⟩, gO NodeA.enc 6 e27_0]) (fun x => x = oJ29) ?_ ?_
 ·refine AW.block ?_
  refine AW.iter (S := Int × (Option (List NodeA))) (fun (i26_0, i26_1) => [(2, .ptr 1 1 0 0), (51, .d (slD NodeA.enc p0.kids)), (52, .d (.val (.int .i64 (p0.kids.length : Int)))), (53, .d (.val (.int .i64 i26_0)))]) (fun (i26_0, i26_1) => [some ⟨1, [[gV 2 6 i26_1]]⟩, some ⟨1, [[.fn 90 [.ptr 0 1 0 0, .ptr 1 1 0 0]]]⟩, gO NodeA.enc 6 i26_1]) [0, 1, 2] h (by simp only [go_sem, reduceEqDiff, reduceAdd, reduceSub, reduceMul, reduceLeDiff, reduceLT, Nat.reduceBEq, reduceIte]) ?_
  rintro again ⟨i26_0, i26_1⟩ h
  try dsimp only at h
  refine AW.op mixed ?_
  refine AW.cu [0, 1, 2] [(2, .ptr 1 1 0 0), (51, .d (slD NodeA.enc p0.kids)), (52, .d (.val (.int .i64 (p0.kids.length : Int)))), (53, .d (.val (.int .i64 i26_0))), (54, .d (.val (.bool (decide (i26_0 < (p0.kids.length : Int))))))] [some ⟨1, [[gV 2 6 i26_1]]⟩, some ⟨1, [[.fn 90 [.ptr 0 1 0 0, .ptr 1 1 0 0]]]⟩, gO NodeA.enc 6 i26_1] ?_
  refine AW.one ?_
  refine AW.ts (decide (i26_0 < (p0.kids.length : Int))) (fun hb30 => ?_) (fun hb30 => ?_)
  ·have h := ifT hb30 h
   refine AW.sk ?_
   refine AW.cu [0, 1, 2] [(2, .ptr 1 1 0 0), (51, .d (slD NodeA.enc p0.kids)), (52, .d (.val (.int .i64 (p0.kids.length : Int)))), (53, .d (.val (.int .i64 i26_0)))] [some ⟨1, [[gV 2 6 i26_1]]⟩, some ⟨1, [[.fn 90 [.ptr 0 1 0 0, .ptr 1 1 0 0]]]⟩, gO NodeA.enc 6 i26_1] ?_
   refine AW.one ?_
   refine AW.block ?_
   refine AW.one ?_
   refine AW.reg mixed (by kernel_rfl) ?_
   apply obindE h; intro x31 hx32 h
   try simp only [go_sem, reduceEqDiff, reduceAdd, reduceSub, reduceMul, reduceLeDiff, reduceLT, Nat.reduceBEq, reduceIte, (idx_some hx32).1, (idx_some hx32).2]
   refine AW.cut [0, 1, 2, 5] [(2, .ptr 1 1 0 0), (8, .ptr 3 6 0 0), (51, .d (slD NodeA.enc p0.kids)), (52, .d (.val (.int .i64 (p0.kids.length : Int)))), (53, .d (.val (.int .i64 i26_0)))] [some ⟨1, [[gV 2 6 i26_1]]⟩, some ⟨1, [[.fn 90 [.ptr 0 1 0 0, .ptr 1 1 0 0]]]⟩, gO NodeA.enc 6 i26_1, some ⟨6, [[.d (.val (.int .i64 x31.op)), .d (.val (.string x31.name)), .d (.val (.bool x31.num.neg)), .d (slD u32V x31.num.num), .d (slD u32V x31.num.den), .d (slD NodeA.enc x31.kids)]]⟩] (by simp only [go_sem, reduceEqDiff, reduceAdd, reduceSub, reduceMul, reduceLeDiff, reduceLT, Nat.reduceBEq, reduceIte, (idx_some hx32).1, (idx_some hx32).2]) ?_
   refine AW.rg mixed ?_
   apply obindE h; intro r33 hx34 h
   have hc := nx (hself90 _ _ hx34)
   refine callK_grow [0, 1] 2 hc (by simp only [go_sem, reduceEqDiff, reduceAdd, reduceSub, reduceMul, reduceLeDiff, reduceLT, Nat.reduceBEq, reduceIte] <;> rfl) (by simp) (by simp) (by simp only [go_sem, reduceEqDiff, reduceAdd, reduceSub, reduceMul, reduceLeDiff, reduceLT, Nat.reduceBEq, reduceIte]) ?_
   try simp only [go_sem, reduceEqDiff, reduceAdd, reduceSub, reduceMul, reduceLeDiff, reduceLT, Nat.reduceBEq, reduceIte]
   refine AW.cu [0, 1, 6] [(2, .ptr 1 1 0 0), (51, .d (slD NodeA.enc p0.kids)), (52, .d (.val (.int .i64 (p0.kids.length : Int)))), (53, .d (.val (.int .i64 i26_0)))] [some ⟨1, [[gV 2 6 r33]]⟩, some ⟨1, [[.fn 90 [.ptr 0 1 0 0, .ptr 1 1 0 0]]]⟩, gO NodeA.enc 6 r33] ?_
   refine AW.rg mixed ?_
   exact NextQ.ar (IntKind.wrap .i64 (i26_0 + (1 : Int)), r33) [0, 1, 2] h
  have h := ifF hb30 h
  refine AW.ex ?_
  exact JoinQ.ar i26_1 [0, 1, 2] (Option.some.inj h)
 rintro e27_0 rfl
 have h := hJ29
 try dsimp only [Out.fin] at h
 refine nz ?_
 obtain rfl := Option.some.inj h
 refine nz ?_
 refine EndM.mk 2 (by decide) (by simp only [go_sem, reduceEqDiff, reduceAdd, reduceSub, reduceMul, reduceLeDiff, reduceLT, Nat.reduceBEq, reduceIte]) (ns ?_)
 exact ⟨.same _, ⟨⟨.same _, trivial⟩, trivial⟩, ⟨⟨.same _, trivial⟩, trivial⟩⟩
def static_SymbolsOf_1 (K : Nat) (p0 : NodeA) (p1 : Option (List NodeA)) : Option (Option (List NodeA)) := iter K (fun self q => static_SymbolsOf_1_body K self q.1 q.2) (p0, p1)
theorem key_static_SymbolsOf_1 {K : Nat} (k : Nat) : (∀ (q : NodeA × (Option (List NodeA))) (r : (Option (List NodeA))), iter k (fun self q => static_SymbolsOf_1_body K self q.1 q.2) q = some r → Cm Tryz.prog 90 [aggV q.1.enc, .ptr 0 1 0 0, .ptr 1 1 0 0] 2 ([some ⟨1, [[gV 2 6 q.2]]⟩, some ⟨1, [[.fn 90 [.ptr 0 1 0 0, .ptr 1 1 0 0]]]⟩] ++ [gO NodeA.enc 6 q.2]) (.tup []) ([some ⟨1, [[gV 2 6 r]]⟩, some ⟨1, [[.fn 90 [.ptr 0 1 0 0, .ptr 1 1 0 0]]]⟩] ++ [gO NodeA.enc 6 r])) := by
 induction k with
 | zero => exact fun q r h => by cases h
 | succ k ih => exact fun q r h => static_SymbolsOf_1_step K _ ih q.1 q.2 r h
theorem static_SymbolsOf_1_ok {K : Nat} {p0 : NodeA} {p1 : Option (List NodeA)} {r : (Option (List NodeA))} (h : static_SymbolsOf_1 K p0 p1 = some r) : Cm Tryz.prog 90 [aggV p0.enc, .ptr 0 1 0 0, .ptr 1 1 0 0] 2 ([some ⟨1, [[gV 2 6 p1]]⟩, some ⟨1, [[.fn 90 [.ptr 0 1 0 0, .ptr 1 1 0 0]]]⟩] ++ [gO NodeA.enc 6 p1]) (.tup []) ([some ⟨1, [[gV 2 6 r]]⟩, some ⟨1, [[.fn 90 [.ptr 0 1 0 0, .ptr 1 1 0 0]]]⟩] ++ [gO NodeA.enc 6 r]) := (key_static_SymbolsOf_1 K) (p0, p1) r h
/-! ### isochrone/static.SymbolsOf -/
def static_SymbolsOf (K : Nat) (p0 : NodeA) : Option (List NodeA) := (static_SymbolsOf_1 K p0 none).bind fun r1 =>
 some (r1.getD [])
set_option maxHeartbeats 4000000 in
theorem static_SymbolsOf_ok {K : Nat} {p0 : NodeA} {r : (List NodeA)} (h : static_SymbolsOf K p0 = some r) : Cn Tryz.prog 48 [aggV p0.enc] (.d (slD NodeA.enc r)) := by
 refine Cn.oz Tryz.func48 Tryz.call48 Tryz.ntmps48 Tryz.results48 fun hfit => ?_
 unfold static_SymbolsOf at h
 refine AW.kr [] [0] ?_
 refine AW.kr [0] [1] ?_
 refine AW.kr [0, 1] [1, 3] ?_
 refine AW.kr [0, 1, 2] [1, 3, 4] ?_
 refine AW.kr [0, 1, 2] [1, 3, 4] ?_
 apply bE h; intro r1 hx2 h
 have hc := nx (static_SymbolsOf_1_ok (h := hx2))
 refine callK_grow [1, 2] 1000 hc (by simp only [go_sem, reduceEqDiff, reduceAdd, reduceSub, reduceMul, reduceLeDiff, reduceLT, Nat.reduceBEq, reduceIte] <;> rfl) (by simp) (by simp) (by simp only [go_sem, reduceEqDiff, reduceAdd, reduceSub, reduceMul, reduceLeDiff, reduceLT, Nat.reduceBEq, reduceIte]) ?_
 refine ns ?_
 refine AW.kr [1, 5] [3] ?_
 refine AW.ret ?_
 cases h; refine nz ?_; exact sealG (by simp only [go_sem, reduceEqDiff, reduceAdd, reduceSub, reduceMul, reduceLeDiff, reduceLT, Nat.reduceBEq, reduceIte])
/-! ### isochrone/tree.Sort -/
def tree_Sort (K : Nat) (p0 : Int) : Option Int := ((
  if (decide ((1 : Int) ≤ p0)) then
   some (decide (p0 ≤ (13 : Int)))
  else
   some false) : Option Bool).bind (fun v1_0 =>
 if v1_0 then
  some (1 : Int)
 else
  ((
   if (decide ((20 : Int) ≤ p0)) then
    some (decide (p0 ≤ (39 : Int)))
   else
    some false) : Option Bool).bind (fun v5_0 =>
  if v5_0 then
   some (2 : Int)
  else
   ((
    if (p0 == (55 : Int)) then
     some true
    else
     some (p0 == (56 : Int))) : Option Bool).bind (fun v9_0 =>
   if v9_0 then
    some (4 : Int)
   else
    ((
     if (decide ((50 : Int) ≤ p0)) then
      some (decide (p0 ≤ (62 : Int)))
     else
      some false) : Option Bool).bind (fun v13_0 =>
    if v13_0 then
     some (3 : Int)
    else
     some (0 : Int)))))
set_option maxHeartbeats 4000000 in
theorem tree_Sort_ok {K : Nat} {p0 : Int} {r : Int} (h : tree_Sort K p0 = some r) : Cn Tryz.prog 24 [.d (.val (.int .i64 p0))] (.d (.val (.int .i64 r))) := by
 refine Cn.oz Tryz.func24 Tryz.call24 Tryz.ntmps24 Tryz.results24 fun hfit => ?_
 unfold tree_Sort at h
 refine AW.kr [] [0] ?_
 refine AW.ks [] [0] ?_
 refine AW.one ?_
 refine AW.block ?_
 refine AW.jn h (fun v1_0 => [(0, vI p0), (3, vB v1_0)]) (fun v1_0 => []) (fun oJ2 h => ?_) fun v1_0 h => ?_
 ·refine AW.rp ?_
  refine sK h (fun hb3 h => ?_) fun hb3 h => ?_
  ·exact ja [] h
  exact ja [] h
 refine AW.tt h (fun hb4 h => ?_) fun hb4 h => ?_
 ·refine AW.ro ?_
  refine AW.ret ?_
  cases h; refine nz ?_; exact .same _
 refine AW.jn h (fun v5_0 => [(0, vI p0), (10, vB v5_0)]) (fun v5_0 => []) (fun oJ6 h => ?_) fun v5_0 h => ?_
 ·refine AW.rp ?_
  refine sK h (fun hb7 h => ?_) fun hb7 h => ?_
  ·exact ja [] h
  exact ja [] h
 refine AW.tt h (fun hb8 h => ?_) fun hb8 h => ?_
 ·refine AW.ro ?_
  refine AW.ret ?_
  cases h; refine nz ?_; exact .same _
 refine AW.jn h (fun v9_0 => [(0, vI p0), (17, vB v9_0)]) (fun v9_0 => []) (fun oJ10 h => ?_) fun v9_0 h => ?_
 ·refine AW.rp ?_
  refine sK h (fun hb11 h => ?_) fun hb11 h => ?_
  ·exact ja [] h
  exact ja [] h
 refine AW.tt h (fun hb12 h => ?_) fun hb12 h => ?_
 ·refine AW.ro ?_
  refine AW.ret ?_
  cases h; refine nz ?_; exact .same _
 refine AW.jn h (fun v13_0 => [(24, vB v13_0)]) (fun v13_0 => []) (fun oJ14 h => ?_) fun v13_0 h => ?_
 ·refine AW.rp ?_
  refine sK h (fun hb15 h => ?_) fun hb15 h => ?_
  ·exact ja [] h
  exact ja [] h
 refine AW.tk h (fun hb16 h => ?_) fun hb16 h => ?_
 ·refine AW.ro ?_
  refine AW.ret ?_
  cases h; refine nz ?_; exact .same _
 refine AW.kr [] [] ?_
 refine AW.ret ?_
 cases h; refine nz ?_; exact .same _
/-! ### isochrone/tree.letter -/
def tree_letter (K : Nat) (p0 : Int) : Option Bool := if (decide ((97 : Int) ≤ p0)) then
  if (decide (p0 ≤ (122 : Int))) then
   some true
  else
   if (decide ((65 : Int) ≤ p0)) then
    some (decide (p0 ≤ (90 : Int)))
   else
    some false
 else
  if (decide ((65 : Int) ≤ p0)) then
   some (decide (p0 ≤ (90 : Int)))
  else
   some false
set_option maxHeartbeats 4000000 in
theorem tree_letter_ok {K : Nat} {p0 : Int} {r : Bool} (h : tree_letter K p0 = some r) : Cn Tryz.prog 108 [.d (.val (.int .u8 p0))] (.d (.val (.bool r))) := by
 refine Cn.oz Tryz.func108 Tryz.call108 Tryz.ntmps108 Tryz.results108 fun hfit => ?_
 unfold tree_letter at h
 refine AW.kr [] [0] ?_
 refine AW.kr [] [0] ?_
 refine sK h (fun hb1 h => ?_) fun hb1 h => ?_
 ·refine sK h (fun hb2 h => ?_) fun hb2 h => ?_
  ·refine AW.ret ?_
   cases h; refine nz ?_; exact .same _
  refine sK h (fun hb3 h => ?_) fun hb3 h => ?_
  ·refine AW.ret ?_
   cases h; refine nz ?_; exact .same _
  refine AW.ret ?_
  cases h; refine nz ?_; exact .same _
 refine sK h (fun hb4 h => ?_) fun hb4 h => ?_
 ·refine AW.ret ?_
  cases h; refine nz ?_; exact .same _
 refine AW.ret ?_
 cases h; refine nz ?_; exact .same _
/-! ### isochrone/tree.Name -/
def tree_Name (K : Nat) (p0 : ByteArray) : Option Bool := ((
  ((
   if ((p0.size : Int) == (0 : Int)) then
    some true
   else
    if (decide ((12 : Int) < (p0.size : Int))) then
     some true
    else
     (strAt p0 (0 : Int)).bind fun c7 =>
     (tree_letter K (c7.toNat : Int)).bind fun r9 =>
     some (!r9)) : Option Bool).bind (fun v3_0 =>
  if v3_0 then
   outM (
    some false)
  else
   some (.go ()))) : Option (Out Unit _)).bind (Out.fin fun _ =>
 ((iter (S := Int) (R := Out Unit _) K (fun again i12_0 =>
  if (decide (i12_0 < (p0.size : Int))) then
   ((
    ((
     (strAt p0 i12_0).bind fun c21 =>
     (tree_letter K (c21.toNat : Int)).bind fun r23 =>
     if (!r23) then
      if (decide ((c21.toNat : Int) < (48 : Int))) then
       some true
      else
       some (decide ((57 : Int) < (c21.toNat : Int)))
     else
      some false) : Option Bool).bind (fun v19_0 =>
    if v19_0 then
     outM (
      outM (
       some false))
    else
     some (.go ()))) : Option (Out Unit _)).bind (Out.fin fun _ =>
   again (IntKind.wrap .i64 (i12_0 + (1 : Int))))
  else
   some (.go ())) (0 : Int)) : Option (Out Unit _)).bind (Out.fin fun _ =>
 ((
  if (p0.toList == (⟨#[116, 114, 117, 101]⟩ : ByteArray).toList) then
   some (p0.toList == (⟨#[116, 114, 117, 101]⟩ : ByteArray).toList)
  else
   if (p0.toList == (⟨#[102, 97, 108, 115, 101]⟩ : ByteArray).toList) then
    some (p0.toList == (⟨#[102, 97, 108, 115, 101]⟩ : ByteArray).toList)
   else
    if (p0.toList == (⟨#[102, 111, 114, 97, 108, 108]⟩ : ByteArray).toList) then
     some (p0.toList == (⟨#[102, 111, 114, 97, 108, 108]⟩ : ByteArray).toList)
    else
     some (p0.toList == (⟨#[101, 120, 105, 115, 116, 115]⟩ : ByteArray).toList)) : Option Bool).bind (fun v28_0 =>
 if v28_0 then
  some false
 else
  some true)))
set_option maxHeartbeats 4000000 in
theorem tree_Name_ok {K : Nat} {p0 : ByteArray} {r : Bool} (h : tree_Name K p0 = some r) : Cn Tryz.prog 68 [.d (.val (.string p0))] (.d (.val (.bool r))) := by
 refine Cn.oz Tryz.func68 Tryz.call68 Tryz.ntmps68 Tryz.results68 fun hfit => ?_
 unfold tree_Name at h
 refine AW.kr [] [0] ?_
 refine AW.ks [] [0] ?_
 refine AW.jo h (fun _ => [(0, vS p0)]) (fun _ => []) (fun oJ2 h hJ2 => ?_) fun ⟨⟩ h => ?_
 ·refine AW.jn h (fun v3_0 => [(0, vS p0), (17, vB v3_0)]) (fun v3_0 => []) (fun oJ4 h => ?_) fun v3_0 h => ?_
  ·refine AW.rp ?_
   refine sK h (fun hb5 h => ?_) fun hb5 h => ?_
   ·exact ja [] h
   refine sK h (fun hb6 h => ?_) fun hb6 h => ?_
   ·exact ja [] h
   refine bb h fun c7 hx8 h => ?_
   refine cm h tree_letter_ok fun r9 hx10 h => ?_
   exact ja [] h
  refine AW.tk h (fun hb11 h => ?_) fun hb11 h => ?_
  ·refine AW.ro ?_
   refine AW.ret ?_
   have h := up h hJ2
   cases h; refine nz ?_; exact .same _
  exact jo [] h
 refine AW.one ?_
 refine AW.ro ?_
 refine AW.ks [] [0, 3] ?_
 refine AW.lp h (fun _ => [(0, vS p0)]) (fun _ => []) (fun i12_0 => [(0, vS p0), (3, vI i12_0)]) (fun i12_0 => []) [] (fun oJ15 hJ15 again i12_0 h => ?_) fun ⟨⟩ h => ?_
 ·refine AW.one ?_
  refine AW.ro ?_
  refine AW.ks [] [0, 3, 21] ?_
  refine AW.tt h (fun hb16 h => ?_) fun hb16 h => ?_
  ·refine AW.sk ?_
   refine AW.ks [] [0, 3] ?_
   refine AW.jo h (fun _ => [(0, vS p0), (3, vI i12_0)]) (fun _ => []) (fun oJ18 h hJ18 => ?_) fun ⟨⟩ h => ?_
   ·refine AW.block ?_
    refine AW.jn h (fun v19_0 => [(0, vS p0), (3, vI i12_0), (40, vB v19_0)]) (fun v19_0 => []) (fun oJ20 h => ?_) fun v19_0 h => ?_
    ·refine AW.rp ?_
     refine bb h fun c21 hx22 h => ?_
     refine cm h tree_letter_ok fun r23 hx24 h => ?_
     refine sK h (fun hb25 h => ?_) fun hb25 h => ?_
     ·refine sK h (fun hb26 h => ?_) fun hb26 h => ?_
      ·exact ja [] h
      exact ja [] h
     exact ja [] h
    refine AW.tk h (fun hb27 h => ?_) fun hb27 h => ?_
    ·refine AW.ro ?_
     refine AW.ret ?_
     have h := up h hJ18
     have h := up h hJ15
     cases h; refine nz ?_; exact .same _
    exact jo [] h
   refine AW.rp ?_
   exact na [] h
  refine AW.ex ?_
  exact jo [] h
 refine AW.ks [] [0] ?_
 refine AW.one ?_
 refine AW.ro ?_
 refine AW.ks [] [41] ?_
 refine AW.block ?_
 refine AW.jn h (fun v28_0 => [(42, vB v28_0)]) (fun v28_0 => []) (fun oJ29 h => ?_) fun v28_0 h => ?_
 ·refine AW.ro ?_
  refine AW.ks [] [41, 42] ?_
  refine AW.tt h (fun hb30 h => ?_) fun hb30 h => ?_
  ·refine AW.sk ?_
   exact ja [] h
  refine AW.ro ?_
  refine AW.ks [] [41, 42] ?_
  refine AW.tt h (fun hb31 h => ?_) fun hb31 h => ?_
  ·refine AW.sk ?_
   exact ja [] h
  refine AW.ro ?_
  refine AW.ks [] [41, 42] ?_
  refine AW.tt h (fun hb32 h => ?_) fun hb32 h => ?_
  ·refine AW.sk ?_
   exact ja [] h
  refine AW.rp ?_
  exact ja [] h
 refine AW.tk h (fun hb33 h => ?_) fun hb33 h => ?_
 ·refine AW.ro ?_
  refine AW.ret ?_
  cases h; refine nz ?_; exact .same _
 refine AW.kr [] [] ?_
 refine AW.ret ?_
 cases h; refine nz ?_; exact .same _
/-! ### isochrone/tree.differentiable -/
def tree_differentiable_body (K : Nat) (self69 : NodeA → Option Bool) (p0 : NodeA) : Option Bool := ((
  if (p0.op == (20 : Int)) then
   some (p0.op == (20 : Int))
  else
   if (p0.op == (21 : Int)) then
    some (p0.op == (21 : Int))
   else
    if (p0.op == (22 : Int)) then
     some (p0.op == (22 : Int))
    else
     if (p0.op == (23 : Int)) then
      some (p0.op == (23 : Int))
     else
      if (p0.op == (24 : Int)) then
       some (p0.op == (24 : Int))
      else
       if (p0.op == (25 : Int)) then
        some (p0.op == (25 : Int))
       else
        if (p0.op == (26 : Int)) then
         some (p0.op == (26 : Int))
        else
         if (p0.op == (27 : Int)) then
          some (p0.op == (27 : Int))
         else
          if (p0.op == (37 : Int)) then
           some (p0.op == (37 : Int))
          else
           some (p0.op == (38 : Int))) : Option Bool).bind (fun v1_0 =>
 if v1_0 then
  some true
 else
  ((
   if (p0.op == (29 : Int)) then
    some (p0.op == (29 : Int))
   else
    some (p0.op == (30 : Int))) : Option Bool).bind (fun v13_0 =>
  if v13_0 then
   ((iter (S := Int) (R := Out Unit _) K (fun again i17_0 =>
    if (decide (i17_0 < (p0.kids.length : Int))) then
     (idx p0.kids i17_0).bind fun x22 =>
     (self69 (x22)).bind fun r24 =>
     if (!r24) then
      outM (
       some false)
     else
      again (IntKind.wrap .i64 (i17_0 + (1 : Int)))
    else
     some (.go ())) (0 : Int)) : Option (Out Unit _)).bind (Out.fin fun _ =>
   some true)
  else
   some false))
set_option maxHeartbeats 4000000 in
theorem tree_differentiable_step (K : Nat) (self69 : NodeA → Option Bool) (hself69 : ∀ (q : NodeA) (r : Bool), self69 q = some r → Cn Tryz.prog 69 [aggV q.enc] (.d (.val (.bool r)))) (p0 : NodeA) (r : Bool) (h : tree_differentiable_body K self69 p0 = some r) : Cn Tryz.prog 69 [aggV p0.enc] (.d (.val (.bool r))) := by
 refine Cn.oz Tryz.func69 Tryz.call69 Tryz.ntmps69 Tryz.results69 fun hfit => ?_
 unfold tree_differentiable_body at h
 refine AW.kr [] [0] ?_
 refine AW.ks [0] [1] ?_
 refine AW.one ?_
 refine AW.ro ?_
 refine AW.ks [0] [1, 6] ?_
 refine AW.block ?_
 refine AW.jn h (fun v1_0 => [(1, .ptr 0 6 0 0), (6, vI p0.op), (7, vB v1_0)]) (fun v1_0 => [vE p0.enc]) (fun oJ2 h => ?_) fun v1_0 h => ?_
 ·refine AW.ro ?_
  refine AW.ks [0] [1, 6, 7] ?_
  refine AW.tt h (fun hb3 h => ?_) fun hb3 h => ?_
  ·refine AW.sk ?_
   exact ja [0] h
  refine AW.ro ?_
  refine AW.ks [0] [1, 6, 7] ?_
  refine AW.tt h (fun hb4 h => ?_) fun hb4 h => ?_
  ·refine AW.sk ?_
   exact ja [0] h
  refine AW.ro ?_
  refine AW.ks [0] [1, 6, 7] ?_
  refine AW.tt h (fun hb5 h => ?_) fun hb5 h => ?_
  ·refine AW.sk ?_
   exact ja [0] h
  refine AW.ro ?_
  refine AW.ks [0] [1, 6, 7] ?_
  refine AW.tt h (fun hb6 h => ?_) fun hb6 h => ?_
  ·refine AW.sk ?_
   exact ja [0] h
  refine AW.ro ?_
  refine AW.ks [0] [1, 6, 7] ?_
  refine AW.tt h (fun hb7 h => ?_) fun hb7 h => ?_
  ·refine AW.sk ?_
   exact ja [0] h
  refine AW.ro ?_
  refine AW.ks [0] [1, 6, 7] ?_
  refine AW.tt h (fun hb8 h => ?_) fun hb8 h => ?_
  ·refine AW.sk ?_
   exact ja [0] h
  refine AW.ro ?_
  refine AW.ks [0] [1, 6, 7] ?_
  refine AW.tt h (fun hb9 h => ?_) fun hb9 h => ?_
  ·refine AW.sk ?_
   exact ja [0] h
  refine AW.ro ?_
  refine AW.ks [0] [1, 6, 7] ?_
  refine AW.tt h (fun hb10 h => ?_) fun hb10 h => ?_
  ·refine AW.sk ?_
   exact ja [0] h
  refine AW.ro ?_
  refine AW.ks [0] [1, 6, 7] ?_
  refine AW.tt h (fun hb11 h => ?_) fun hb11 h => ?_
  ·refine AW.sk ?_
   exact ja [0] h
  refine AW.rp ?_
  exact ja [0] h
 refine AW.tt h (fun hb12 h => ?_) fun hb12 h => ?_
 ·refine AW.ro ?_
  refine AW.ret ?_
  cases h; refine nz ?_; exact .same _
 refine AW.jn h (fun v13_0 => [(1, .ptr 0 6 0 0), (18, vB v13_0)]) (fun v13_0 => [vE p0.enc]) (fun oJ14 h => ?_) fun v13_0 h => ?_
 ·refine AW.ro ?_
  refine AW.ks [0] [1, 6, 18] ?_
  refine AW.tt h (fun hb15 h => ?_) fun hb15 h => ?_
  ·refine AW.sk ?_
   exact ja [0] h
  refine AW.rp ?_
  exact ja [0] h
 refine AW.tk h (fun hb16 h => ?_) fun hb16 h => ?_
 ·refine AW.one ?_
  refine AW.ro ?_
  refine AW.ks [] [22, 23, 24] ?_
  refine AW.lp h (fun _ => []) (fun _ => []) (fun i17_0 => [(22, vL NodeA.enc p0.kids), (23, vI (p0.kids.length : Int)), (24, vI i17_0)]) (fun i17_0 => []) [] (fun oJ20 hJ20 again i17_0 h => ?_) fun ⟨⟩ h => ?_
  ·refine AW.ro ?_
   refine AW.ks [] [22, 23, 24, 25] ?_
   refine AW.one ?_
   refine AW.tt h (fun hb21 h => ?_) fun hb21 h => ?_
   ·refine AW.sk ?_
    refine AW.ks [] [22, 23, 24] ?_
    refine AW.one ?_
    refine AW.block ?_
    refine AW.ro ?_
    refine bx h fun x22 h0 h1 h => ?_
    refine AW.kr [2] [4, 22, 23, 24] ?_
    refine cm h (hself69 _ _) fun r24 hx25 h => ?_
    refine AW.ks [] [22, 23, 24, 30] ?_
    refine AW.tk h (fun hb26 h => ?_) fun hb26 h => ?_
    ·refine AW.ro ?_
     refine AW.ret ?_
     have h := up h hJ20
     cases h; refine nz ?_; exact .same _
    refine AW.ks [] [22, 23, 24] ?_
    refine AW.rp ?_
    exact na [] h
   refine AW.ex ?_
   exact jo [] h
  refine AW.kr [] [] ?_
  refine AW.ret ?_
  cases h; refine nz ?_; exact .same _
 refine AW.kr [] [] ?_
 refine AW.ret ?_
 cases h; refine nz ?_; exact .same _
def tree_differentiable (K : Nat) (p0 : NodeA) : Option Bool := iter K (fun self q => tree_differentiable_body K self q) p0
theorem key_tree_differentiable {K : Nat} (k : Nat) : (∀ (q : NodeA) (r : Bool), iter k (fun self q => tree_differentiable_body K self q) q = some r → Cn Tryz.prog 69 [aggV q.enc] (.d (.val (.bool r)))) := by
 induction k with
 | zero => exact fun q r h => by cases h
 | succ k ih => exact fun q r h => tree_differentiable_step K _ ih q r h
theorem tree_differentiable_ok {K : Nat} {p0 : NodeA} {r : Bool} (h : tree_differentiable K p0 = some r) : Cn Tryz.prog 69 [aggV p0.enc] (.d (.val (.bool r))) := (key_tree_differentiable K) p0 r h
/-! ### isochrone/num.valid -/
def num_valid (K : Nat) (p0 : List Int) (p1 : Int) : Option Bool := if (decide ((p0.length : Int) ≤ p1)) then
  if ((p0.length : Int) == (0 : Int)) then
   some true
  else
   (idx p0 (IntKind.wrap .i64 ((p0.length : Int) - (1 : Int)))).bind fun x3 =>
   some (x3 != (0 : Int))
 else
  some false
set_option maxHeartbeats 4000000 in
theorem num_valid_ok {K : Nat} {p0 : List Int} {p1 : Int} {r : Bool} (h : num_valid K p0 p1 = some r) : Cn Tryz.prog 148 [.d (slD u32V p0), .d (.val (.int .i64 p1))] (.d (.val (.bool r))) := by
 refine Cn.oz Tryz.func148 Tryz.call148 Tryz.ntmps148 Tryz.results148 fun hfit => ?_
 unfold num_valid at h
 refine AW.kr [] [0, 1] ?_
 refine AW.kr [] [0, 1] ?_
 refine sK h (fun hb1 h => ?_) fun hb1 h => ?_
 ·refine sK h (fun hb2 h => ?_) fun hb2 h => ?_
  ·refine AW.ret ?_
   cases h; refine nz ?_; exact .same _
  refine bx h fun x3 h0 h1 h => ?_
  refine AW.ret ?_
  cases h; refine nz ?_; exact .same _
 refine AW.ret ?_
 cases h; refine nz ?_; exact .same _
/-! ### isochrone/num.Valid -/
def num_Valid (K : Nat) (p0 : RatA) (p1 : Int) : Option Bool := ((
  ((
   (num_valid K p0.num p1).bind fun r5 =>
   if (!r5) then
    some true
   else
    (num_valid K p0.den p1).bind fun r8 =>
    if (!r8) then
     some true
    else
     some ((p0.den.length : Int) == (0 : Int))) : Option Bool).bind (fun v3_0 =>
  if v3_0 then
   outM (
    some false)
  else
   some (.go ()))) : Option (Out Unit _)).bind (Out.fin fun _ =>
 if ((p0.num.length : Int) == (0 : Int)) then
  if (!p0.neg) then
   if ((p0.den.length : Int) == (1 : Int)) then
    (idx p0.den (0 : Int)).bind fun x15 =>
    some (x15 == (1 : Int))
   else
    some false
  else
   some false
 else
  ((
   ((
    if ((p0.den.length : Int) == (1 : Int)) then
     (idx p0.den (0 : Int)).bind fun x22 =>
     some (x22 == (1 : Int))
    else
     some false) : Option Bool).bind (fun v19_0 =>
   if v19_0 then
    outM (
     some true)
   else
    some (.go ()))) : Option (Out Unit _)).bind (Out.fin fun _ =>
  none))
set_option maxHeartbeats 4000000 in
theorem num_Valid_ok {K : Nat} {p0 : RatA} {p1 : Int} {r : Bool} (h : num_Valid K p0 p1 = some r) : Cn Tryz.prog 126 [aggV p0.enc, .d (.val (.int .i64 p1))] (.d (.val (.bool r))) := by
 refine Cn.oz Tryz.func126 Tryz.call126 Tryz.ntmps126 Tryz.results126 fun hfit => ?_
 unfold num_Valid at h
 refine AW.kr [] [0, 1] ?_
 refine AW.ks [0] [1, 2] ?_
 refine AW.jo h (fun _ => [(2, .ptr 0 3 0 0)]) (fun _ => [vE p0.enc]) (fun oJ2 h hJ2 => ?_) fun ⟨⟩ h => ?_
 ·refine AW.jn h (fun v3_0 => [(2, .ptr 0 3 0 0), (23, vB v3_0)]) (fun v3_0 => [vE p0.enc]) (fun oJ4 h => ?_) fun v3_0 h => ?_
  ·refine AW.rp ?_
   refine cm h num_valid_ok fun r5 hx6 h => ?_
   refine sK h (fun hb7 h => ?_) fun hb7 h => ?_
   ·exact ja [0] h
   refine cm h num_valid_ok fun r8 hx9 h => ?_
   refine sK h (fun hb10 h => ?_) fun hb10 h => ?_
   ·exact ja [0] h
   exact ja [0] h
  refine AW.tk h (fun hb11 h => ?_) fun hb11 h => ?_
  ·refine AW.ro ?_
   refine AW.ret ?_
   have h := up h hJ2
   cases h; refine nz ?_; exact .same _
  exact jo [0] h
 refine AW.one ?_
 refine AW.ro ?_
 refine AW.ks [0] [2, 27] ?_
 refine AW.tk h (fun hb12 h => ?_) fun hb12 h => ?_
 ·refine AW.ro ?_
  refine sK h (fun hb13 h => ?_) fun hb13 h => ?_
  ·refine sK h (fun hb14 h => ?_) fun hb14 h => ?_
   ·refine bx h fun x15 h0 h1 h => ?_
    refine AW.ret ?_
    cases h; refine nz ?_; exact .same _
   refine AW.ret ?_
   cases h; refine nz ?_; exact .same _
  refine AW.ret ?_
  cases h; refine nz ?_; exact .same _
 refine AW.ks [0] [2] ?_
 refine AW.jo h (fun _ => [(2, .ptr 0 3 0 0)]) (fun _ => [vE p0.enc]) (fun oJ18 h hJ18 => ?_) fun ⟨⟩ h => ?_
 ·refine AW.jn h (fun v19_0 => [(2, .ptr 0 3 0 0), (54, vB v19_0)]) (fun v19_0 => [vE p0.enc]) (fun oJ20 h => ?_) fun v19_0 h => ?_
  ·refine AW.rp ?_
   refine sK h (fun hb21 h => ?_) fun hb21 h => ?_
   ·refine bx h fun x22 h0 h1 h => ?_
    exact ja [0] h
   exact ja [0] h
  refine AW.tk h (fun hb24 h => ?_) fun hb24 h => ?_
  ·refine AW.ro ?_
   refine AW.ret ?_
   have h := up h hJ18
   cases h; refine nz ?_; exact .same _
  exact jo [0] h
 refine AW.ro ?_
 cases h
/-! ### isochrone/rat.Valid -/
def rat_Valid (K : Nat) (p0 : RatA) : Option Bool := (num_Valid K p0 (4096 : Int)).bind fun r1 =>
 some r1
set_option maxHeartbeats 4000000 in
theorem rat_Valid_ok {K : Nat} {p0 : RatA} {r : Bool} (h : rat_Valid K p0 = some r) : Cn Tryz.prog 107 [aggV p0.enc] (.d (.val (.bool r))) := by
 refine Cn.oz Tryz.func107 Tryz.call107 Tryz.ntmps107 Tryz.results107 fun hfit => ?_
 unfold rat_Valid at h
 refine AW.kr [] [0] ?_
 refine AW.kr [0] [1] ?_
 refine cm h num_Valid_ok fun r1 hx2 h => ?_
 refine AW.ret ?_
 cases h; refine nz ?_; exact .same _
/-! ### isochrone/tree.natural -/
def tree_natural (K : Nat) (p0 : RatA) : Option Bool := if (!p0.neg) then
  if ((p0.den.length : Int) == (1 : Int)) then
   (idx p0.den (0 : Int)).bind fun x3 =>
   if (x3 == (1 : Int)) then
    if (decide ((p0.num.length : Int) ≤ (20 : Int))) then
     (rat_Valid K p0).bind fun r7 =>
     some r7
    else
     some false
   else
    some false
  else
   some false
 else
  some false
set_option maxHeartbeats 4000000 in
theorem tree_natural_ok {K : Nat} {p0 : RatA} {r : Bool} (h : tree_natural K p0 = some r) : Cn Tryz.prog 66 [aggV p0.enc] (.d (.val (.bool r))) := by
 refine Cn.oz Tryz.func66 Tryz.call66 Tryz.ntmps66 Tryz.results66 fun hfit => ?_
 unfold tree_natural at h
 refine AW.kr [] [0] ?_
 refine AW.kr [0] [1] ?_
 refine sK h (fun hb1 h => ?_) fun hb1 h => ?_
 ·refine sK h (fun hb2 h => ?_) fun hb2 h => ?_
  ·refine bx h fun x3 h0 h1 h => ?_
   refine sK h (fun hb5 h => ?_) fun hb5 h => ?_
   ·refine sK h (fun hb6 h => ?_) fun hb6 h => ?_
    ·refine cm h rat_Valid_ok fun r7 hx8 h => ?_
     refine AW.ret ?_
     cases h; refine nz ?_; exact .same _
    refine AW.ret ?_
    cases h; refine nz ?_; exact .same _
   refine AW.ret ?_
   cases h; refine nz ?_; exact .same _
  refine AW.ret ?_
  cases h; refine nz ?_; exact .same _
 refine AW.ret ?_
 cases h; refine nz ?_; exact .same _
/-! ### isochrone/tree.shape -/
def tree_shape (K : Nat) (p0 : Int) : Option (Bool × (Option (List Int))) := ((
  if (p0 == (1 : Int)) then
   some (p0 == (1 : Int))
  else
   if (p0 == (13 : Int)) then
    some (p0 == (13 : Int))
   else
    if (p0 == (20 : Int)) then
     some (p0 == (20 : Int))
    else
     some (p0 == (21 : Int))) : Option Bool).bind (fun v1_0 =>
 if v1_0 then
  some (false, none)
 else
  ((
   if (p0 == (2 : Int)) then
    some (p0 == (2 : Int))
   else
    if (p0 == (3 : Int)) then
     some (p0 == (3 : Int))
    else
     if (p0 == (11 : Int)) then
      some (p0 == (11 : Int))
     else
      if (p0 == (38 : Int)) then
       some (p0 == (38 : Int))
      else
       if (p0 == (52 : Int)) then
        some (p0 == (52 : Int))
       else
        if (p0 == (56 : Int)) then
         some (p0 == (56 : Int))
        else
         if (p0 == (61 : Int)) then
          some (p0 == (61 : Int))
         else
          some (p0 == (62 : Int))) : Option Bool).bind (fun v7_0 =>
  if v7_0 then
   some (true, none)
  else
   ((
    if (p0 == (4 : Int)) then
     some (p0 == (4 : Int))
    else
     if (p0 == (12 : Int)) then
      some (p0 == (12 : Int))
     else
      if (p0 == (53 : Int)) then
       some (p0 == (53 : Int))
      else
       if (p0 == (28 : Int)) then
        some (p0 == (28 : Int))
       else
        if (p0 == (39 : Int)) then
         some (p0 == (39 : Int))
        else
         if (p0 == (59 : Int)) then
          some (p0 == (59 : Int))
         else
          some (p0 == (60 : Int))) : Option Bool).bind (fun v17_0 =>
   if v17_0 then
    ((
     ((
      if (p0 == (4 : Int)) then
       some (p0 == (4 : Int))
      else
       some (p0 == (12 : Int))) : Option Bool).bind (fun v28_0 =>
     if v28_0 then
      outM (
       some (false, (some [(1 : Int)])))
     else
      ((
       if (p0 == (59 : Int)) then
        some (p0 == (59 : Int))
       else
        some (p0 == (60 : Int))) : Option Bool).bind (fun v32_0 =>
      if v32_0 then
       outM (
        some (false, (some [(3 : Int)])))
      else
       some (.go ())))) : Option (Out Unit _)).bind (Out.fin fun _ =>
    some (false, (some [(2 : Int)])))
   else
    ((
     if (p0 == (5 : Int)) then
      some (p0 == (5 : Int))
     else
      if (p0 == (6 : Int)) then
       some (p0 == (6 : Int))
      else
       if (p0 == (7 : Int)) then
        some (p0 == (7 : Int))
       else
        if (p0 == (8 : Int)) then
         some (p0 == (8 : Int))
        else
         if (p0 == (9 : Int)) then
          some (p0 == (9 : Int))
         else
          if (p0 == (22 : Int)) then
           some (p0 == (22 : Int))
          else
           if (p0 == (23 : Int)) then
            some (p0 == (23 : Int))
           else
            if (p0 == (24 : Int)) then
             some (p0 == (24 : Int))
            else
             if (p0 == (25 : Int)) then
              some (p0 == (25 : Int))
             else
              if (p0 == (26 : Int)) then
               some (p0 == (26 : Int))
              else
               some (p0 == (27 : Int))) : Option Bool).bind (fun v36_0 =>
    if v36_0 then
     some (false, (some [(1 : Int), (1 : Int)]))
    else
     ((
      if (p0 == (29 : Int)) then
       some (p0 == (29 : Int))
      else
       if (p0 == (30 : Int)) then
        some (p0 == (30 : Int))
       else
        if (p0 == (31 : Int)) then
         some (p0 == (31 : Int))
        else
         some (p0 == (32 : Int))) : Option Bool).bind (fun v49_0 =>
     if v49_0 then
      some (false, (some [(2 : Int), (2 : Int)]))
     else
      ((
       if (p0 == (33 : Int)) then
        some (p0 == (33 : Int))
       else
        some (p0 == (34 : Int))) : Option Bool).bind (fun v55_0 =>
      if v55_0 then
       some (true, (some [(2 : Int)]))
      else
       ((
        if (p0 == (35 : Int)) then
         some (p0 == (35 : Int))
        else
         some (p0 == (36 : Int))) : Option Bool).bind (fun v59_0 =>
       if v59_0 then
        some (false, (some [(3 : Int), (2 : Int)]))
       else
        ((
         if (p0 == (50 : Int)) then
          some (p0 == (50 : Int))
         else
          if (p0 == (51 : Int)) then
           some (p0 == (51 : Int))
          else
           some (p0 == (55 : Int))) : Option Bool).bind (fun v63_0 =>
        if v63_0 then
         some (true, (some [(1 : Int)]))
        else
         ((
          if (p0 == (57 : Int)) then
           some (p0 == (57 : Int))
          else
           some (p0 == (58 : Int))) : Option Bool).bind (fun v68_0 =>
         if v68_0 then
          some (false, (some [(3 : Int), (3 : Int)]))
         else
          some (false, none))))))))))
set_option maxHeartbeats 4000000 in
theorem tree_shape_ok {K : Nat} {p0 : Int} {r : Bool × (Option (List Int))} (h : tree_shape K p0 = some r) : Cn Tryz.prog 67 [.d (.val (.int .i64 p0))] (.tup [.d (.val (.bool r.1)), nilV i64V r.2]) := by
 refine Cn.oz Tryz.func67 Tryz.call67 Tryz.ntmps67 Tryz.results67 fun hfit => ?_
 unfold tree_shape at h
 refine AW.kr [] [0] ?_
 refine AW.ks [] [0] ?_
 refine AW.one ?_
 refine AW.ro ?_
 refine AW.ks [] [0, 4] ?_
 refine AW.block ?_
 refine AW.jn h (fun v1_0 => [(0, vI p0), (4, vI p0), (5, vB v1_0)]) (fun v1_0 => []) (fun oJ2 h => ?_) fun v1_0 h => ?_
 ·refine AW.ro ?_
  refine AW.ks [] [0, 4, 5] ?_
  refine AW.tt h (fun hb3 h => ?_) fun hb3 h => ?_
  ·refine AW.sk ?_
   exact ja [] h
  refine AW.ro ?_
  refine AW.ks [] [0, 4, 5] ?_
  refine AW.tt h (fun hb4 h => ?_) fun hb4 h => ?_
  ·refine AW.sk ?_
   exact ja [] h
  refine AW.ro ?_
  refine AW.ks [] [0, 4, 5] ?_
  refine AW.tt h (fun hb5 h => ?_) fun hb5 h => ?_
  ·refine AW.sk ?_
   exact ja [] h
  refine AW.rp ?_
  exact ja [] h
 refine AW.tt h (fun hb6 h => ?_) fun hb6 h => ?_
 ·refine AW.ro ?_
  refine AW.ret ?_
  cases h; refine nz ?_; exact .same _
 refine AW.jn h (fun v7_0 => [(0, vI p0), (4, vI p0), (10, vB v7_0)]) (fun v7_0 => []) (fun oJ8 h => ?_) fun v7_0 h => ?_
 ·refine AW.ro ?_
  refine AW.ks [] [0, 4, 10] ?_
  refine AW.tt h (fun hb9 h => ?_) fun hb9 h => ?_
  ·refine AW.sk ?_
   exact ja [] h
  refine AW.ro ?_
  refine AW.ks [] [0, 4, 10] ?_
  refine AW.tt h (fun hb10 h => ?_) fun hb10 h => ?_
  ·refine AW.sk ?_
   exact ja [] h
  refine AW.ro ?_
  refine AW.ks [] [0, 4, 10] ?_
  refine AW.tt h (fun hb11 h => ?_) fun hb11 h => ?_
  ·refine AW.sk ?_
   exact ja [] h
  refine AW.ro ?_
  refine AW.ks [] [0, 4, 10] ?_
  refine AW.tt h (fun hb12 h => ?_) fun hb12 h => ?_
  ·refine AW.sk ?_
   exact ja [] h
  refine AW.ro ?_
  refine AW.ks [] [0, 4, 10] ?_
  refine AW.tt h (fun hb13 h => ?_) fun hb13 h => ?_
  ·refine AW.sk ?_
   exact ja [] h
  refine AW.ro ?_
  refine AW.ks [] [0, 4, 10] ?_
  refine AW.tt h (fun hb14 h => ?_) fun hb14 h => ?_
  ·refine AW.sk ?_
   exact ja [] h
  refine AW.ro ?_
  refine AW.ks [] [0, 4, 10] ?_
  refine AW.tt h (fun hb15 h => ?_) fun hb15 h => ?_
  ·refine AW.sk ?_
   exact ja [] h
  refine AW.rp ?_
  exact ja [] h
 refine AW.tt h (fun hb16 h => ?_) fun hb16 h => ?_
 ·refine AW.ro ?_
  refine AW.ret ?_
  cases h; refine nz ?_; exact .same _
 refine AW.jn h (fun v17_0 => [(0, vI p0), (4, vI p0), (19, vB v17_0)]) (fun v17_0 => []) (fun oJ18 h => ?_) fun v17_0 h => ?_
 ·refine AW.ro ?_
  refine AW.ks [] [0, 4, 19] ?_
  refine AW.tt h (fun hb19 h => ?_) fun hb19 h => ?_
  ·refine AW.sk ?_
   exact ja [] h
  refine AW.ro ?_
  refine AW.ks [] [0, 4, 19] ?_
  refine AW.tt h (fun hb20 h => ?_) fun hb20 h => ?_
  ·refine AW.sk ?_
   exact ja [] h
  refine AW.ro ?_
  refine AW.ks [] [0, 4, 19] ?_
  refine AW.tt h (fun hb21 h => ?_) fun hb21 h => ?_
  ·refine AW.sk ?_
   exact ja [] h
  refine AW.ro ?_
  refine AW.ks [] [0, 4, 19] ?_
  refine AW.tt h (fun hb22 h => ?_) fun hb22 h => ?_
  ·refine AW.sk ?_
   exact ja [] h
  refine AW.ro ?_
  refine AW.ks [] [0, 4, 19] ?_
  refine AW.tt h (fun hb23 h => ?_) fun hb23 h => ?_
  ·refine AW.sk ?_
   exact ja [] h
  refine AW.ro ?_
  refine AW.ks [] [0, 4, 19] ?_
  refine AW.tt h (fun hb24 h => ?_) fun hb24 h => ?_
  ·refine AW.sk ?_
   exact ja [] h
  refine AW.rp ?_
  exact ja [] h
 refine AW.tt h (fun hb25 h => ?_) fun hb25 h => ?_
 ·refine AW.jo h (fun _ => []) (fun _ => []) (fun oJ27 h hJ27 => ?_) fun ⟨⟩ h => ?_
  ·refine AW.ro ?_
   refine AW.ks [] [27] ?_
   refine AW.block ?_
   refine AW.jn h (fun v28_0 => [(27, vI p0), (28, vB v28_0)]) (fun v28_0 => []) (fun oJ29 h => ?_) fun v28_0 h => ?_
   ·refine AW.ro ?_
    refine AW.ks [] [27, 28] ?_
    refine AW.tt h (fun hb30 h => ?_) fun hb30 h => ?_
    ·refine AW.sk ?_
     exact ja [] h
    refine AW.rp ?_
    exact ja [] h
   refine AW.tt h (fun hb31 h => ?_) fun hb31 h => ?_
   ·refine AW.ro ?_
    refine AW.ret ?_
    have h := up h hJ27
    cases h; refine nz ?_; exact .same _
   refine AW.jn h (fun v32_0 => [(32, vB v32_0)]) (fun v32_0 => []) (fun oJ33 h => ?_) fun v32_0 h => ?_
   ·refine AW.ro ?_
    refine AW.ks [] [27, 32] ?_
    refine AW.tt h (fun hb34 h => ?_) fun hb34 h => ?_
    ·refine AW.sk ?_
     exact ja [] h
    refine AW.rp ?_
    exact ja [] h
   refine AW.tk h (fun hb35 h => ?_) fun hb35 h => ?_
   ·refine AW.ro ?_
    refine AW.ret ?_
    have h := up h hJ27
    cases h; refine nz ?_; exact .same _
   exact jo [] h
  refine AW.ro ?_
  refine AW.ret ?_
  cases h; refine nz ?_; exact .same _
 refine AW.jn h (fun v36_0 => [(4, vI p0), (37, vB v36_0)]) (fun v36_0 => []) (fun oJ37 h => ?_) fun v36_0 h => ?_
 ·refine AW.ro ?_
  refine AW.ks [] [4, 37] ?_
  refine AW.tt h (fun hb38 h => ?_) fun hb38 h => ?_
  ·refine AW.sk ?_
   exact ja [] h
  refine AW.ro ?_
  refine AW.ks [] [4, 37] ?_
  refine AW.tt h (fun hb39 h => ?_) fun hb39 h => ?_
  ·refine AW.sk ?_
   exact ja [] h
  refine AW.ro ?_
  refine AW.ks [] [4, 37] ?_
  refine AW.tt h (fun hb40 h => ?_) fun hb40 h => ?_
  ·refine AW.sk ?_
   exact ja [] h
  refine AW.ro ?_
  refine AW.ks [] [4, 37] ?_
  refine AW.tt h (fun hb41 h => ?_) fun hb41 h => ?_
  ·refine AW.sk ?_
   exact ja [] h
  refine AW.ro ?_
  refine AW.ks [] [4, 37] ?_
  refine AW.tt h (fun hb42 h => ?_) fun hb42 h => ?_
  ·refine AW.sk ?_
   exact ja [] h
  refine AW.ro ?_
  refine AW.ks [] [4, 37] ?_
  refine AW.tt h (fun hb43 h => ?_) fun hb43 h => ?_
  ·refine AW.sk ?_
   exact ja [] h
  refine AW.ro ?_
  refine AW.ks [] [4, 37] ?_
  refine AW.tt h (fun hb44 h => ?_) fun hb44 h => ?_
  ·refine AW.sk ?_
   exact ja [] h
  refine AW.ro ?_
  refine AW.ks [] [4, 37] ?_
  refine AW.tt h (fun hb45 h => ?_) fun hb45 h => ?_
  ·refine AW.sk ?_
   exact ja [] h
  refine AW.ro ?_
  refine AW.ks [] [4, 37] ?_
  refine AW.tt h (fun hb46 h => ?_) fun hb46 h => ?_
  ·refine AW.sk ?_
   exact ja [] h
  refine AW.ro ?_
  refine AW.ks [] [4, 37] ?_
  refine AW.tt h (fun hb47 h => ?_) fun hb47 h => ?_
  ·refine AW.sk ?_
   exact ja [] h
  refine AW.rp ?_
  exact ja [] h
 refine AW.tt h (fun hb48 h => ?_) fun hb48 h => ?_
 ·refine AW.ro ?_
  refine AW.ret ?_
  cases h; refine nz ?_; exact .same _
 refine AW.jn h (fun v49_0 => [(4, vI p0), (50, vB v49_0)]) (fun v49_0 => []) (fun oJ50 h => ?_) fun v49_0 h => ?_
 ·refine AW.ro ?_
  refine AW.ks [] [4, 50] ?_
  refine AW.tt h (fun hb51 h => ?_) fun hb51 h => ?_
  ·refine AW.sk ?_
   exact ja [] h
  refine AW.ro ?_
  refine AW.ks [] [4, 50] ?_
  refine AW.tt h (fun hb52 h => ?_) fun hb52 h => ?_
  ·refine AW.sk ?_
   exact ja [] h
  refine AW.ro ?_
  refine AW.ks [] [4, 50] ?_
  refine AW.tt h (fun hb53 h => ?_) fun hb53 h => ?_
  ·refine AW.sk ?_
   exact ja [] h
  refine AW.rp ?_
  exact ja [] h
 refine AW.tt h (fun hb54 h => ?_) fun hb54 h => ?_
 ·refine AW.ro ?_
  refine AW.ret ?_
  cases h; refine nz ?_; exact .same _
 refine AW.jn h (fun v55_0 => [(4, vI p0), (56, vB v55_0)]) (fun v55_0 => []) (fun oJ56 h => ?_) fun v55_0 h => ?_
 ·refine AW.ro ?_
  refine AW.ks [] [4, 56] ?_
  refine AW.tt h (fun hb57 h => ?_) fun hb57 h => ?_
  ·refine AW.sk ?_
   exact ja [] h
  refine AW.rp ?_
  exact ja [] h
 refine AW.tt h (fun hb58 h => ?_) fun hb58 h => ?_
 ·refine AW.ro ?_
  refine AW.ret ?_
  cases h; refine nz ?_; exact .same _
 refine AW.jn h (fun v59_0 => [(4, vI p0), (60, vB v59_0)]) (fun v59_0 => []) (fun oJ60 h => ?_) fun v59_0 h => ?_
 ·refine AW.ro ?_
  refine AW.ks [] [4, 60] ?_
  refine AW.tt h (fun hb61 h => ?_) fun hb61 h => ?_
  ·refine AW.sk ?_
   exact ja [] h
  refine AW.rp ?_
  exact ja [] h
 refine AW.tt h (fun hb62 h => ?_) fun hb62 h => ?_
 ·refine AW.ro ?_
  refine AW.ret ?_
  cases h; refine nz ?_; exact .same _
 refine AW.jn h (fun v63_0 => [(4, vI p0), (64, vB v63_0)]) (fun v63_0 => []) (fun oJ64 h => ?_) fun v63_0 h => ?_
 ·refine AW.ro ?_
  refine AW.ks [] [4, 64] ?_
  refine AW.tt h (fun hb65 h => ?_) fun hb65 h => ?_
  ·refine AW.sk ?_
   exact ja [] h
  refine AW.ro ?_
  refine AW.ks [] [4, 64] ?_
  refine AW.tt h (fun hb66 h => ?_) fun hb66 h => ?_
  ·refine AW.sk ?_
   exact ja [] h
  refine AW.rp ?_
  exact ja [] h
 refine AW.tt h (fun hb67 h => ?_) fun hb67 h => ?_
 ·refine AW.ro ?_
  refine AW.ret ?_
  cases h; refine nz ?_; exact .same _
 refine AW.jn h (fun v68_0 => [(69, vB v68_0)]) (fun v68_0 => []) (fun oJ69 h => ?_) fun v68_0 h => ?_
 ·refine AW.ro ?_
  refine AW.ks [] [4, 69] ?_
  refine AW.tt h (fun hb70 h => ?_) fun hb70 h => ?_
  ·refine AW.sk ?_
   exact ja [] h
  refine AW.rp ?_
  exact ja [] h
 refine AW.tk h (fun hb71 h => ?_) fun hb71 h => ?_
 ·refine AW.ro ?_
  refine AW.ret ?_
  cases h; refine nz ?_; exact .same _
 refine AW.kr [] [] ?_
 refine AW.ret ?_
 cases h; refine nz ?_; exact .same _
structure Tree_placeA where
 inDiff : Bool
 inFDiff : Bool
 inFlow : Bool
def Tree_placeA.enc (x : Tree_placeA) : List D := [.val (.bool x.inDiff), .val (.bool x.inFDiff), .val (.bool x.inFlow)]
theorem Tree_placeA.enc_eta (x : Tree_placeA) : x.enc = [.val (.bool x.inDiff), .val (.bool x.inFDiff), .val (.bool x.inFlow)] := rfl
attribute [go_sem] Tree_placeA.enc_eta
/-! ### isochrone/tree.formed -/
def tree_formed_body (K : Nat) (self37 : (NodeA × Tree_placeA) → Option Bool) (p0 : NodeA) (p1 : Tree_placeA) : Option Bool := ((
  if (p0.op == (1 : Int)) then
   (tree_natural K p0.num).bind fun r4 =>
   if (!r4) then
    outM (
     some false)
   else
    some (.go ())
  else
   ((
    if p0.num.neg then
     some true
    else
     if (decide ((0 : Int) < (p0.num.num.length : Int))) then
      some true
     else
      some (decide ((0 : Int) < (p0.num.den.length : Int)))) : Option Bool).bind (fun v7_0 =>
   if v7_0 then
    outM (
     some false)
   else
    some (.go ()))) : Option (Out Unit _)).bind (Out.fin fun _ =>
 (tree_shape K p0.op).bind fun r12 =>
 ((
  ((
   if r12.1 then
    (tree_Name K p0.name).bind fun r19 =>
    if (!r19) then
     some true
    else
     some false
   else
    if (!(p0.name.toList == (⟨#[]⟩ : ByteArray).toList)) then
     if (p0.op != (10 : Int)) then
      some (p0.op != (37 : Int))
     else
      some false
    else
     some false) : Option Bool).bind (fun v16_0 =>
  if v16_0 then
   outM (
    some false)
  else
   some (.go ()))) : Option (Out Unit _)).bind (Out.fin fun _ =>
 ((
  ((
   if (p0.op == (10 : Int)) then
    some (p0.op == (10 : Int))
   else
    some (p0.op == (37 : Int))) : Option Bool).bind (fun v27_0 =>
  if v27_0 then
   ((
    ((
     (tree_Name K p0.name).bind fun r35 =>
     if (!r35) then
      some true
     else
      some (decide ((1 : Int) < (p0.kids.length : Int)))) : Option Bool).bind (fun v33_0 =>
    if v33_0 then
     outM (
      outM (
       some false))
    else
     some (.go ()))) : Option (Out Unit _)).bind (Out.fin fun _ =>
   (must r12.2.isNone).bind fun _ =>
   ((iter (S := Int × (List Int)) (R := (List Int)) K (fun again (i44_0, i44_1) =>
    if (decide (i44_0 < (p0.kids.length : Int))) then
     (appO 8 i44_1 [(1 : Int)]).bind fun l49 =>
     again (IntKind.wrap .i64 (i44_0 + (1 : Int)), l49)
    else
     some i44_1) ((0 : Int), [])) : Option (List Int)).bind (fun e45_0 =>
   some (.go (e45_0, p1))))
  else
   if (p0.op == (54 : Int)) then
    ((
     ((
      if (!(p0.name.toList == (⟨#[]⟩ : ByteArray).toList)) then
       some true
      else
       some (decide ((p0.kids.length : Int) < (2 : Int)))) : Option Bool).bind (fun v54_0 =>
     if v54_0 then
      outM (
       outM (
        some false))
     else
      some (.go ()))) : Option (Out Unit _)).bind (Out.fin fun _ =>
    (must r12.2.isNone).bind fun _ =>
    ((iter (S := Int × (List Int)) (R := Out (List Int) _) K (fun again (i63_0, i63_1) =>
     if (decide (i63_0 < (IntKind.wrap .i64 ((p0.kids.length : Int) - (1 : Int))))) then
      ((
       (idx p0.kids i63_0).bind fun x70 =>
       ((
        ((
         if (x70.op != (55 : Int)) then
          if (x70.op != (56 : Int)) then
           some true
          else
           some (i63_0 != (IntKind.wrap .i64 ((IntKind.wrap .i64 ((p0.kids.length : Int) - (1 : Int))) - (1 : Int))))
         else
          some false) : Option Bool).bind (fun v74_0 =>
        if v74_0 then
         outM (
          outM (
           outM (
            outM (
             some false))))
        else
         some (.go ()))) : Option (Out Unit _)).bind (Out.fin fun _ =>
       (cutL p0.kids none (some i63_0)).bind fun s79 =>
       ((iter (S := Int) (R := Out Unit _) K (fun again i81_0 =>
        if (decide (i81_0 < (s79.length : Int))) then
         ((
          (idx s79 i81_0).bind fun x88 =>
          ((
           if (x70.op == (55 : Int)) then
            some (x88.name.toList == x70.name.toList)
           else
            some false) : Option Bool).bind (fun v90_0 =>
          if v90_0 then
           outM (
            outM (
             outM (
              outM (
               outM (
                some false)))))
          else
           some (.go ()))) : Option (Out Unit _)).bind (Out.fin fun _ =>
         again (IntKind.wrap .i64 (i81_0 + (1 : Int))))
        else
         some (.go ())) (0 : Int)) : Option (Out Unit _)).bind (Out.fin fun _ =>
       (appO 8 i63_1 [(4 : Int)]).bind fun l94 =>
       some (.go l94)))) : Option (Out (List Int) _)).bind (Out.fin fun v68_0 =>
      again (IntKind.wrap .i64 (i63_0 + (1 : Int)), v68_0))
     else
      some (.go i63_1)) ((0 : Int), [])) : Option (Out (List Int) _)).bind (Out.fin fun e64_0 =>
    (appO 8 e64_0 [(2 : Int)]).bind fun l96 =>
    some (.go (l96, (Tree_placeA.mk p1.inDiff p1.inFDiff true)))))
   else
    if (p0.op == (3 : Int)) then
     ((
      if p1.inDiff then
       some true
      else
       if p1.inFDiff then
        some true
       else
        some p1.inFlow) : Option Bool).bind (fun v99_0 =>
     if v99_0 then
      outM (
       some false)
     else
      some (.go ((r12.2.getD []), p1)))
    else
     if (p0.op == (12 : Int)) then
      ((
       ((
        if p1.inDiff then
         some true
        else
         some p1.inFlow) : Option Bool).bind (fun v107_0 =>
       if v107_0 then
        outM (
         outM (
          some false))
       else
        some (.go ()))) : Option (Out Unit _)).bind (Out.fin fun _ =>
      some (.go ((r12.2.getD []), (Tree_placeA.mk true p1.inFDiff p1.inFlow))))
     else
      if (p0.op == (39 : Int)) then
       ((
        ((
         if p1.inFlow then
          some true
         else
          if ((p0.kids.length : Int) != (1 : Int)) then
           some true
          else
           (idx p0.kids (0 : Int)).bind fun x118 =>
           (tree_differentiable K x118).bind fun r120 =>
           some (!r120)) : Option Bool).bind (fun v114_0 =>
        if v114_0 then
         outM (
          outM (
           some false))
        else
         some (.go ()))) : Option (Out Unit _)).bind (Out.fin fun _ =>
       some (.go ((r12.2.getD []), (Tree_placeA.mk p1.inDiff true p1.inFlow))))
      else
       some (.go ((r12.2.getD []), p1)))) : Option (Out ((List Int) × Tree_placeA) _)).bind (Out.fin fun (v25_0, v25_1) =>
 if ((p0.kids.length : Int) != (v25_0.length : Int)) then
  some false
 else
  ((iter (S := Int) (R := Out Unit _) K (fun again i124_0 =>
   if (decide (i124_0 < (p0.kids.length : Int))) then
    ((
     (idx p0.kids i124_0).bind fun x131 =>
     ((
      (tree_Sort K x131.op).bind fun r135 =>
      (idx v25_0 i124_0).bind fun x137 =>
      if (r135 != x137) then
       some true
      else
       (self37 (x131, v25_1)).bind fun r140 =>
       some (!r140)) : Option Bool).bind (fun v133_0 =>
     if v133_0 then
      outM (
       outM (
        some false))
     else
      some (.go ()))) : Option (Out Unit _)).bind (Out.fin fun _ =>
    again (IntKind.wrap .i64 (i124_0 + (1 : Int))))
   else
    some (.go ())) (0 : Int)) : Option (Out Unit _)).bind (Out.fin fun _ =>
  if (p0.op == (8 : Int)) then
   (idx p0.kids (1 : Int)).bind fun x144 =>
   if (x144.op == (1 : Int)) then
    some (decide ((0 : Int) < (x144.num.num.length : Int)))
   else
    some false
  else
   if (p0.op == (9 : Int)) then
    (idx p0.kids (1 : Int)).bind fun x148 =>
    if (x148.op == (1 : Int)) then
     if ((x148.num.num.length : Int) == (0 : Int)) then
      some true
     else
      if ((x148.num.num.length : Int) == (1 : Int)) then
       (idx x148.num.num (0 : Int)).bind fun x153 =>
       some (decide (x153 ≤ (20 : Int)))
      else
       some false
    else
     some false
   else
    some true))))
set_option maxHeartbeats 4000000 in
theorem tree_formed_step (K : Nat) (self37 : (NodeA × Tree_placeA) → Option Bool) (hself37 : ∀ (q : NodeA × Tree_placeA) (r : Bool), self37 q = some r → Cn Tryz.prog 37 [aggV q.1.enc, aggV q.2.enc] (.d (.val (.bool r)))) (p0 : NodeA) (p1 : Tree_placeA) (r : Bool) (h : tree_formed_body K self37 p0 p1 = some r) : Cn Tryz.prog 37 [aggV p0.enc, aggV p1.enc] (.d (.val (.bool r))) := by
 refine Cn.oz Tryz.func37 Tryz.call37 Tryz.ntmps37 Tryz.results37 fun hfit => ?_
 unfold tree_formed_body at h
 refine AW.kr [] [0, 1] ?_
 refine AW.ks [0, 1] [2, 3] ?_
 refine AW.jo h (fun _ => [(2, .ptr 0 6 0 0), (3, .ptr 1 3 0 0)]) (fun _ => [vE p0.enc, vE p1.enc]) (fun oJ2 h hJ2 => ?_) fun ⟨⟩ h => ?_
 ·refine AW.ro ?_
  refine AW.ks [0, 1] [2, 3, 17] ?_
  refine AW.tt h (fun hb3 h => ?_) fun hb3 h => ?_
  ·refine AW.ro ?_
   refine cm h tree_natural_ok fun r4 hx5 h => ?_
   refine AW.ks [0, 1] [2, 3, 21] ?_
   refine AW.tk h (fun hb6 h => ?_) fun hb6 h => ?_
   ·refine AW.ro ?_
    refine AW.ret ?_
    have h := up h hJ2
    cases h; refine nz ?_; exact .same _
   exact jo [0, 1] h
  refine AW.jn h (fun v7_0 => [(2, .ptr 0 6 0 0), (3, .ptr 1 3 0 0), (38, vB v7_0)]) (fun v7_0 => [vE p0.enc, vE p1.enc]) (fun oJ8 h => ?_) fun v7_0 h => ?_
  ·refine AW.rp ?_
   refine sK h (fun hb9 h => ?_) fun hb9 h => ?_
   ·exact ja [0, 1] h
   refine sK h (fun hb10 h => ?_) fun hb10 h => ?_
   ·exact ja [0, 1] h
   exact ja [0, 1] h
  refine AW.tk h (fun hb11 h => ?_) fun hb11 h => ?_
  ·refine AW.ro ?_
   refine AW.ret ?_
   have h := up h hJ2
   cases h; refine nz ?_; exact .same _
  exact jo [0, 1] h
 refine AW.ro ?_
 refine cm h tree_shape_ok fun r12 hx13 h => ?_
 refine AW.ks [0, 1] [2, 3, 5, 6] ?_
 refine AW.jo h (fun _ => [(2, .ptr 0 6 0 0), (3, .ptr 1 3 0 0), (6, nilV i64V r12.2)]) (fun _ => [vE p0.enc, vE p1.enc]) (fun oJ15 h hJ15 => ?_) fun ⟨⟩ h => ?_
 ·refine AW.jn h (fun v16_0 => [(2, .ptr 0 6 0 0), (3, .ptr 1 3 0 0), (6, nilV i64V r12.2), (70, vB v16_0)]) (fun v16_0 => [vE p0.enc, vE p1.enc]) (fun oJ17 h => ?_) fun v16_0 h => ?_
  ·refine AW.rp ?_
   refine sK h (fun hb18 h => ?_) fun hb18 h => ?_
   ·refine cm h tree_Name_ok fun r19 hx20 h => ?_
    refine sK h (fun hb21 h => ?_) fun hb21 h => ?_
    ·exact ja [0, 1] h
    exact ja [0, 1] h
   refine sK h (fun hb22 h => ?_) fun hb22 h => ?_
   ·refine sK h (fun hb23 h => ?_) fun hb23 h => ?_
    ·exact ja [0, 1] h
    exact ja [0, 1] h
   exact ja [0, 1] h
  refine AW.tk h (fun hb24 h => ?_) fun hb24 h => ?_
  ·refine AW.ro ?_
   refine AW.ret ?_
   have h := up h hJ15
   cases h; refine nz ?_; exact .same _
  exact jo [0, 1] h
 refine AW.jo h (fun (v25_0, v25_1) => [(2, .ptr 0 6 0 0), (3, .ptr 1 3 0 0), (6, vL i64V v25_0)]) (fun (v25_0, v25_1) => [vE p0.enc, vE v25_1.enc]) (fun oJ26 h hJ26 => ?_) fun ⟨v25_0, v25_1⟩ h => ?_
 ·refine AW.ro ?_
  refine AW.ks [0, 1] [2, 3, 6, 72] ?_
  refine AW.block ?_
  refine AW.jn h (fun v27_0 => [(2, .ptr 0 6 0 0), (3, .ptr 1 3 0 0), (6, nilV i64V r12.2), (72, vI p0.op), (73, vB v27_0)]) (fun v27_0 => [vE p0.enc, vE p1.enc]) (fun oJ28 h => ?_) fun v27_0 h => ?_
  ·refine AW.ro ?_
   refine AW.ks [0, 1] [2, 3, 6, 72, 73] ?_
   refine AW.tt h (fun hb29 h => ?_) fun hb29 h => ?_
   ·refine AW.sk ?_
    exact ja [0, 1] h
   refine AW.rp ?_
   exact ja [0, 1] h
  refine AW.tt h (fun hb30 h => ?_) fun hb30 h => ?_
  ·refine AW.jo h (fun _ => [(2, .ptr 0 6 0 0), (3, .ptr 1 3 0 0), (6, nilV i64V r12.2)]) (fun _ => [vE p0.enc, vE p1.enc]) (fun oJ32 h hJ32 => ?_) fun ⟨⟩ h => ?_
   ·refine AW.jn h (fun v33_0 => [(2, .ptr 0 6 0 0), (3, .ptr 1 3 0 0), (6, nilV i64V r12.2), (85, vB v33_0)]) (fun v33_0 => [vE p0.enc, vE p1.enc]) (fun oJ34 h => ?_) fun v33_0 h => ?_
    ·refine AW.rp ?_
     refine cm h tree_Name_ok fun r35 hx36 h => ?_
     refine sK h (fun hb37 h => ?_) fun hb37 h => ?_
     ·exact ja [0, 1] h
     exact ja [0, 1] h
    refine AW.tk h (fun hb38 h => ?_) fun hb38 h => ?_
    ·refine AW.ro ?_
     refine AW.ret ?_
     have h := up h hJ32
     have h := up h hJ26
     cases h; refine nz ?_; exact .same _
    exact jo [0, 1] h
   refine AW.ro ?_
   refine AW.ks [0, 1] [2, 3, 6, 88, 89] ?_
   apply bE h; intro _ hx43 h; have hx43 := must_none hx43
   refine AW.ks [0, 1] [2, 3, 6, 88, 89] ?_
   refine AW.lm h (fun e45_0 => [(2, .ptr 0 6 0 0), (3, .ptr 1 3 0 0), (6, accV 2 1 ((e45_0.map i64V).map (·.map .d)))]) (fun e45_0 => [vE p0.enc, vE p1.enc, accO 1 ((e45_0.map i64V).map (·.map .d))]) (fun (i44_0, i44_1) => [(2, .ptr 0 6 0 0), (3, .ptr 1 3 0 0), (6, accV 2 1 ((i44_1.map i64V).map (·.map .d))), (88, vI (p0.kids.length : Int)), (89, vI i44_0)]) (fun (i44_0, i44_1) => [vE p0.enc, vE p1.enc, accO 1 ((i44_1.map i64V).map (·.map .d))]) [0, 1, 1002] (fun oJ47 again ⟨i44_0, i44_1⟩ h => ?_) fun e45_0 h => ?_
   ·try dsimp only at h
    refine AW.ro ?_
    refine AW.ks [0, 1, 2] [2, 3, 6, 88, 89, 90] ?_
    refine AW.one ?_
    refine AW.tt h (fun hb48 h => ?_) fun hb48 h => ?_
    ·refine AW.sk ?_
     refine AW.ks [0, 1, 2] [2, 3, 6, 88, 89] ?_
     refine AW.one ?_
     refine AW.block ?_
     refine AW.rp ?_
     refine ag (f := i64V) h fun l49 hx50 h => ?_
     refine AW.ks [0, 1, 5] [2, 3, 6, 88, 89] ?_
     refine AW.rp ?_
     exact na [0, 1, 2] h
    refine AW.ex ?_
    exact ja [0, 1, 2] h
   refine JoinQ.mkS (e45_0, p1) [0, 1] [2] [(6, .d (slD i64V e45_0))] [] (Option.some.inj h).symm (by simp only [go_sem, reduceEqDiff, reduceAdd, reduceSub, reduceMul, reduceLeDiff, reduceLT, Nat.reduceBEq, reduceIte, sealL_cons, sealL_nil]; exact sealAcc (by simp only [go_sem, reduceEqDiff, reduceAdd, reduceSub, reduceMul, reduceLeDiff, reduceLT, Nat.reduceBEq, reduceIte])) (by simp only [go_sem, reduceEqDiff, reduceAdd, reduceSub, reduceMul, reduceLeDiff, reduceLT, Nat.reduceBEq, reduceIte, sealH_cons, sealH_nil]) (by simp only [go_sem, reduceEqDiff, reduceAdd, reduceSub, reduceMul, reduceLeDiff, reduceLT, Nat.reduceBEq, reduceIte])
  refine AW.ro ?_
  refine AW.ks [0, 1] [2, 3, 6, 72, 95] ?_
  refine AW.tt h (fun hb51 h => ?_) fun hb51 h => ?_
  ·refine AW.jo h (fun _ => [(2, .ptr 0 6 0 0), (3, .ptr 1 3 0 0), (6, nilV i64V r12.2)]) (fun _ => [vE p0.enc, vE p1.enc]) (fun oJ53 h hJ53 => ?_) fun ⟨⟩ h => ?_
   ·refine AW.jn h (fun v54_0 => [(2, .ptr 0 6 0 0), (3, .ptr 1 3 0 0), (6, nilV i64V r12.2), (105, vB v54_0)]) (fun v54_0 => [vE p0.enc, vE p1.enc]) (fun oJ55 h => ?_) fun v54_0 h => ?_
    ·refine AW.rp ?_
     refine sK h (fun hb56 h => ?_) fun hb56 h => ?_
     ·exact ja [0, 1] h
     exact ja [0, 1] h
    refine AW.tk h (fun hb57 h => ?_) fun hb57 h => ?_
    ·refine AW.ro ?_
     refine AW.ret ?_
     have h := up h hJ53
     have h := up h hJ26
     cases h; refine nz ?_; exact .same _
    exact jo [0, 1] h
   refine AW.ro ?_
   refine AW.ks [0, 1] [2, 3, 6, 7] ?_
   refine AW.one ?_
   refine AW.ro ?_
   refine AW.ks [0, 1] [2, 3, 6, 7, 8] ?_
   apply bE h; intro _ hx62 h; have hx62 := must_none hx62
   refine AW.ks [0, 1] [2, 3, 6, 7, 8] ?_
   refine AW.lp h (fun e64_0 => [(2, .ptr 0 6 0 0), (3, .ptr 1 3 0 0), (6, accV 2 1 ((e64_0.map i64V).map (·.map .d)))]) (fun e64_0 => [vE p0.enc, vE p1.enc, accO 1 ((e64_0.map i64V).map (·.map .d))]) (fun (i63_0, i63_1) => [(2, .ptr 0 6 0 0), (3, .ptr 1 3 0 0), (6, accV 2 1 ((i63_1.map i64V).map (·.map .d))), (7, vI (IntKind.wrap .i64 ((p0.kids.length : Int) - (1 : Int)))), (8, vI i63_0)]) (fun (i63_0, i63_1) => [vE p0.enc, vE p1.enc, accO 1 ((i63_1.map i64V).map (·.map .d))]) [0, 1, 1002] (fun oJ66 hJ66 again ⟨i63_0, i63_1⟩ h => ?_) fun e64_0 h => ?_
   ·try dsimp only at h
    refine AW.one ?_
    refine AW.ro ?_
    refine AW.ks [0, 1, 2] [2, 3, 6, 7, 8, 112] ?_
    refine AW.tt h (fun hb67 h => ?_) fun hb67 h => ?_
    ·refine AW.sk ?_
     refine AW.ks [0, 1, 2] [2, 3, 6, 7, 8] ?_
     refine AW.jo h (fun v68_0 => [(2, .ptr 0 6 0 0), (3, .ptr 1 3 0 0), (6, accV 2 1 ((v68_0.map i64V).map (·.map .d))), (7, vI (IntKind.wrap .i64 ((p0.kids.length : Int) - (1 : Int)))), (8, vI i63_0)]) (fun v68_0 => [vE p0.enc, vE p1.enc, accO 1 ((v68_0.map i64V).map (·.map .d))]) (fun oJ69 h hJ69 => ?_) fun v68_0 h => ?_
     ·refine AW.block ?_
      refine AW.ro ?_
      refine bx h fun x70 h0 h1 h => ?_
      refine AW.ks [0, 1, 2, 8] [2, 3, 6, 7, 8, 9] ?_
      refine AW.jo h (fun _ => [(2, .ptr 0 6 0 0), (3, .ptr 1 3 0 0), (6, accV 2 1 ((i63_1.map i64V).map (·.map .d))), (7, vI (IntKind.wrap .i64 ((p0.kids.length : Int) - (1 : Int)))), (8, vI i63_0), (9, .ptr 3 6 0 0)]) (fun _ => [vE p0.enc, vE p1.enc, accO 1 ((i63_1.map i64V).map (·.map .d)), vE x70.enc]) (fun oJ73 h hJ73 => ?_) fun ⟨⟩ h => ?_
      ·refine AW.jn h (fun v74_0 => [(2, .ptr 0 6 0 0), (3, .ptr 1 3 0 0), (6, accV 2 1 ((i63_1.map i64V).map (·.map .d))), (7, vI (IntKind.wrap .i64 ((p0.kids.length : Int) - (1 : Int)))), (8, vI i63_0), (9, .ptr 3 6 0 0), (133, vB v74_0)]) (fun v74_0 => [vE p0.enc, vE p1.enc, accO 1 ((i63_1.map i64V).map (·.map .d)), vE x70.enc]) (fun oJ75 h => ?_) fun v74_0 h => ?_
       ·refine AW.rp ?_
        refine sK h (fun hb76 h => ?_) fun hb76 h => ?_
        ·refine sK h (fun hb77 h => ?_) fun hb77 h => ?_
         ·exact ja [0, 1, 2, 3] h
         exact ja [0, 1, 2, 3] h
        exact ja [0, 1, 2, 3] h
       refine AW.tk h (fun hb78 h => ?_) fun hb78 h => ?_
       ·refine AW.ro ?_
        refine AW.ret ?_
        have h := up h hJ73
        have h := up h hJ69
        have h := up h hJ66
        have h := up h hJ26
        cases h; refine nz ?_; exact .same _
       exact jo [0, 1, 2, 3] h
      refine AW.one ?_
      refine AW.ro ?_
      refine bb h fun s79 hx80 h => ?_
      refine AW.ks [0, 1, 2, 3] [2, 3, 6, 7, 8, 9, 137, 138, 139] ?_
      refine AW.lp h (fun _ => [(2, .ptr 0 6 0 0), (3, .ptr 1 3 0 0), (6, accV 2 1 ((i63_1.map i64V).map (·.map .d))), (7, vI (IntKind.wrap .i64 ((p0.kids.length : Int) - (1 : Int)))), (8, vI i63_0)]) (fun _ => [vE p0.enc, vE p1.enc, accO 1 ((i63_1.map i64V).map (·.map .d))]) (fun i81_0 => [(2, .ptr 0 6 0 0), (3, .ptr 1 3 0 0), (6, accV 2 1 ((i63_1.map i64V).map (·.map .d))), (7, vI (IntKind.wrap .i64 ((p0.kids.length : Int) - (1 : Int)))), (8, vI i63_0), (9, .ptr 3 6 0 0), (137, vL NodeA.enc s79), (138, vI (s79.length : Int)), (139, vI i81_0)]) (fun i81_0 => [vE p0.enc, vE p1.enc, accO 1 ((i63_1.map i64V).map (·.map .d)), vE x70.enc]) [0, 1, 2, 3] (fun oJ84 hJ84 again i81_0 h => ?_) fun ⟨⟩ h => ?_
      ·refine AW.ro ?_
       refine AW.ks [0, 1, 2, 3] [2, 3, 6, 7, 8, 9, 137, 138, 139, 140] ?_
       refine AW.one ?_
       refine AW.tt h (fun hb85 h => ?_) fun hb85 h => ?_
       ·refine AW.sk ?_
        refine AW.ks [0, 1, 2, 3] [2, 3, 6, 7, 8, 9, 137, 138, 139] ?_
        refine AW.jo h (fun _ => [(2, .ptr 0 6 0 0), (3, .ptr 1 3 0 0), (6, accV 2 1 ((i63_1.map i64V).map (·.map .d))), (7, vI (IntKind.wrap .i64 ((p0.kids.length : Int) - (1 : Int)))), (8, vI i63_0), (9, .ptr 3 6 0 0), (137, vL NodeA.enc s79), (138, vI (s79.length : Int)), (139, vI i81_0)]) (fun _ => [vE p0.enc, vE p1.enc, accO 1 ((i63_1.map i64V).map (·.map .d)), vE x70.enc]) (fun oJ87 h hJ87 => ?_) fun ⟨⟩ h => ?_
        ·refine AW.block ?_
         refine AW.ro ?_
         refine bx h fun x88 h0 h1 h => ?_
         refine AW.ks [0, 1, 2, 3, 6] [2, 3, 6, 7, 8, 9, 11, 137, 138, 139] ?_
         refine AW.jn h (fun v90_0 => [(2, .ptr 0 6 0 0), (3, .ptr 1 3 0 0), (6, accV 2 1 ((i63_1.map i64V).map (·.map .d))), (7, vI (IntKind.wrap .i64 ((p0.kids.length : Int) - (1 : Int)))), (8, vI i63_0), (9, .ptr 3 6 0 0), (137, vL NodeA.enc s79), (138, vI (s79.length : Int)), (139, vI i81_0), (152, vB v90_0)]) (fun v90_0 => [vE p0.enc, vE p1.enc, accO 1 ((i63_1.map i64V).map (·.map .d)), vE x70.enc]) (fun oJ91 h => ?_) fun v90_0 h => ?_
         ·refine AW.rp ?_
          refine sK h (fun hb92 h => ?_) fun hb92 h => ?_
          ·exact ja [0, 1, 2, 3] h
          exact ja [0, 1, 2, 3] h
         refine AW.tk h (fun hb93 h => ?_) fun hb93 h => ?_
         ·refine AW.ro ?_
          refine AW.ret ?_
          have h := up h hJ87
          have h := up h hJ84
          have h := up h hJ69
          have h := up h hJ66
          have h := up h hJ26
          cases h; refine nz ?_; exact .same _
         exact jo [0, 1, 2, 3] h
        refine AW.rp ?_
        exact na [0, 1, 2, 3] h
       refine AW.ex ?_
       exact jo [0, 1, 2] h
      refine AW.ks [0, 1, 2] [2, 3, 6, 7, 8] ?_
      refine AW.rp ?_
      refine ag (f := i64V) h fun l94 hx95 h => ?_
      exact jo [0, 1, 5] h
     refine AW.rp ?_
     exact na [0, 1, 2] h
    refine AW.ex ?_
    exact jo [0, 1, 2] h
   refine AW.kr [0, 1, 2] [2, 3, 6] ?_
   refine ag (f := i64V) h fun l96 hx97 h => ?_
   refine AW.ks [0, 1, 5] [2, 3, 6] ?_
   refine AW.rp ?_
   refine JoinQ.mkS (l96, (Tree_placeA.mk p1.inDiff p1.inFDiff true)) [0, 1] [2] [(6, .d (slD i64V l96))] [] (Option.some.inj h).symm (by simp only [go_sem, reduceEqDiff, reduceAdd, reduceSub, reduceMul, reduceLeDiff, reduceLT, Nat.reduceBEq, reduceIte, sealL_cons, sealL_nil]; exact sealAcc (by simp only [go_sem, reduceEqDiff, reduceAdd, reduceSub, reduceMul, reduceLeDiff, reduceLT, Nat.reduceBEq, reduceIte])) (by simp only [go_sem, reduceEqDiff, reduceAdd, reduceSub, reduceMul, reduceLeDiff, reduceLT, Nat.reduceBEq, reduceIte, sealH_cons, sealH_nil]) (by simp only [go_sem, reduceEqDiff, reduceAdd, reduceSub, reduceMul, reduceLeDiff, reduceLT, Nat.reduceBEq, reduceIte])
  refine AW.ro ?_
  refine AW.ks [0, 1] [2, 3, 6, 72, 161] ?_
  refine AW.tt h (fun hb98 h => ?_) fun hb98 h => ?_
  ·refine AW.jn h (fun v99_0 => [(2, .ptr 0 6 0 0), (3, .ptr 1 3 0 0), (6, nilV i64V r12.2), (172, vB v99_0)]) (fun v99_0 => [vE p0.enc, vE p1.enc]) (fun oJ100 h => ?_) fun v99_0 h => ?_
   ·refine AW.rp ?_
    refine sK h (fun hb101 h => ?_) fun hb101 h => ?_
    ·exact ja [0, 1] h
    refine sK h (fun hb102 h => ?_) fun hb102 h => ?_
    ·exact ja [0, 1] h
    exact ja [0, 1] h
   refine AW.tk h (fun hb103 h => ?_) fun hb103 h => ?_
   ·refine AW.ro ?_
    refine AW.ret ?_
    have h := up h hJ26
    cases h; refine nz ?_; exact .same _
   refine JoinQ.mkS ((r12.2.getD []), p1) [0, 1] [] [(6, .d (slD i64V (r12.2.getD [])))] [] (Option.some.inj h).symm (by simp only [go_sem, reduceEqDiff, reduceAdd, reduceSub, reduceMul, reduceLeDiff, reduceLT, Nat.reduceBEq, reduceIte, sealL_cons, sealL_nil]; exact sealNil) (by simp only [go_sem, reduceEqDiff, reduceAdd, reduceSub, reduceMul, reduceLeDiff, reduceLT, Nat.reduceBEq, reduceIte, sealH_cons, sealH_nil]) (by simp only [go_sem, reduceEqDiff, reduceAdd, reduceSub, reduceMul, reduceLeDiff, reduceLT, Nat.reduceBEq, reduceIte])
  refine AW.ro ?_
  refine AW.ks [0, 1] [2, 3, 6, 72, 173] ?_
  refine AW.tt h (fun hb104 h => ?_) fun hb104 h => ?_
  ·refine AW.jo h (fun _ => [(2, .ptr 0 6 0 0), (3, .ptr 1 3 0 0), (6, nilV i64V r12.2)]) (fun _ => [vE p0.enc, vE p1.enc]) (fun oJ106 h hJ106 => ?_) fun ⟨⟩ h => ?_
   ·refine AW.jn h (fun v107_0 => [(2, .ptr 0 6 0 0), (3, .ptr 1 3 0 0), (6, nilV i64V r12.2), (180, vB v107_0)]) (fun v107_0 => [vE p0.enc, vE p1.enc]) (fun oJ108 h => ?_) fun v107_0 h => ?_
    ·refine AW.rp ?_
     refine sK h (fun hb109 h => ?_) fun hb109 h => ?_
     ·exact ja [0, 1] h
     exact ja [0, 1] h
    refine AW.tk h (fun hb110 h => ?_) fun hb110 h => ?_
    ·refine AW.ro ?_
     refine AW.ret ?_
     have h := up h hJ106
     have h := up h hJ26
     cases h; refine nz ?_; exact .same _
    exact jo [0, 1] h
   refine AW.rp ?_
   refine JoinQ.mkS ((r12.2.getD []), (Tree_placeA.mk true p1.inFDiff p1.inFlow)) [0, 1] [] [(6, .d (slD i64V (r12.2.getD [])))] [] (Option.some.inj h).symm (by simp only [go_sem, reduceEqDiff, reduceAdd, reduceSub, reduceMul, reduceLeDiff, reduceLT, Nat.reduceBEq, reduceIte, sealL_cons, sealL_nil]; exact sealNil) (by simp only [go_sem, reduceEqDiff, reduceAdd, reduceSub, reduceMul, reduceLeDiff, reduceLT, Nat.reduceBEq, reduceIte, sealH_cons, sealH_nil]) (by simp only [go_sem, reduceEqDiff, reduceAdd, reduceSub, reduceMul, reduceLeDiff, reduceLT, Nat.reduceBEq, reduceIte])
  refine AW.ro ?_
  refine AW.ks [0, 1] [2, 3, 6, 182] ?_
  refine AW.tk h (fun hb111 h => ?_) fun hb111 h => ?_
  ·refine AW.jo h (fun _ => [(2, .ptr 0 6 0 0), (3, .ptr 1 3 0 0), (6, nilV i64V r12.2)]) (fun _ => [vE p0.enc, vE p1.enc]) (fun oJ113 h hJ113 => ?_) fun ⟨⟩ h => ?_
   ·refine AW.jn h (fun v114_0 => [(2, .ptr 0 6 0 0), (3, .ptr 1 3 0 0), (6, nilV i64V r12.2), (199, vB v114_0)]) (fun v114_0 => [vE p0.enc, vE p1.enc]) (fun oJ115 h => ?_) fun v114_0 h => ?_
    ·refine AW.rp ?_
     refine sK h (fun hb116 h => ?_) fun hb116 h => ?_
     ·exact ja [0, 1] h
     refine sK h (fun hb117 h => ?_) fun hb117 h => ?_
     ·exact ja [0, 1] h
     refine bx h fun x118 h0 h1 h => ?_
     refine cm h tree_differentiable_ok fun r120 hx121 h => ?_
     exact ja [0, 1] h
    refine AW.tk h (fun hb122 h => ?_) fun hb122 h => ?_
    ·refine AW.ro ?_
     refine AW.ret ?_
     have h := up h hJ113
     have h := up h hJ26
     cases h; refine nz ?_; exact .same _
    exact jo [0, 1] h
   refine AW.rp ?_
   refine JoinQ.mkS ((r12.2.getD []), (Tree_placeA.mk p1.inDiff true p1.inFlow)) [0, 1] [] [(6, .d (slD i64V (r12.2.getD [])))] [] (Option.some.inj h).symm (by simp only [go_sem, reduceEqDiff, reduceAdd, reduceSub, reduceMul, reduceLeDiff, reduceLT, Nat.reduceBEq, reduceIte, sealL_cons, sealL_nil]; exact sealNil) (by simp only [go_sem, reduceEqDiff, reduceAdd, reduceSub, reduceMul, reduceLeDiff, reduceLT, Nat.reduceBEq, reduceIte, sealH_cons, sealH_nil]) (by simp only [go_sem, reduceEqDiff, reduceAdd, reduceSub, reduceMul, reduceLeDiff, reduceLT, Nat.reduceBEq, reduceIte])
  refine JoinQ.mkS ((r12.2.getD []), p1) [0, 1] [] [(6, .d (slD i64V (r12.2.getD [])))] [] (Option.some.inj h).symm (by simp only [go_sem, reduceEqDiff, reduceAdd, reduceSub, reduceMul, reduceLeDiff, reduceLT, Nat.reduceBEq, reduceIte, sealL_cons, sealL_nil]; exact sealNil) (by simp only [go_sem, reduceEqDiff, reduceAdd, reduceSub, reduceMul, reduceLeDiff, reduceLT, Nat.reduceBEq, reduceIte, sealH_cons, sealH_nil]) (by simp only [go_sem, reduceEqDiff, reduceAdd, reduceSub, reduceMul, reduceLeDiff, reduceLT, Nat.reduceBEq, reduceIte])
 try dsimp only at h
 refine AW.one ?_
 refine AW.ro ?_
 refine AW.ks [0, 1] [2, 3, 6, 206] ?_
 refine AW.tk h (fun hb123 h => ?_) fun hb123 h => ?_
 ·refine AW.ro ?_
  refine AW.ret ?_
  cases h; refine nz ?_; exact .same _
 refine AW.ks [0, 1] [2, 3, 6] ?_
 refine AW.one ?_
 refine AW.ro ?_
 refine AW.ks [0, 1] [2, 3, 6, 208, 209, 210] ?_
 refine AW.lp h (fun _ => [(2, .ptr 0 6 0 0)]) (fun _ => [vE p0.enc]) (fun i124_0 => [(2, .ptr 0 6 0 0), (3, .ptr 1 3 0 0), (6, vL i64V v25_0), (208, vL NodeA.enc p0.kids), (209, vI (p0.kids.length : Int)), (210, vI i124_0)]) (fun i124_0 => [vE p0.enc, vE v25_1.enc]) [0, 1] (fun oJ127 hJ127 again i124_0 h => ?_) fun ⟨⟩ h => ?_
 ·refine AW.ro ?_
  refine AW.ks [0, 1] [2, 3, 6, 208, 209, 210, 211] ?_
  refine AW.one ?_
  refine AW.tt h (fun hb128 h => ?_) fun hb128 h => ?_
  ·refine AW.sk ?_
   refine AW.ks [0, 1] [2, 3, 6, 208, 209, 210] ?_
   refine AW.jo h (fun _ => [(2, .ptr 0 6 0 0), (3, .ptr 1 3 0 0), (6, vL i64V v25_0), (208, vL NodeA.enc p0.kids), (209, vI (p0.kids.length : Int)), (210, vI i124_0)]) (fun _ => [vE p0.enc, vE v25_1.enc]) (fun oJ130 h hJ130 => ?_) fun ⟨⟩ h => ?_
   ·refine AW.block ?_
    refine AW.ro ?_
    refine bx h fun x131 h0 h1 h => ?_
    refine AW.ks [0, 1, 5] [2, 3, 6, 12, 13, 208, 209, 210] ?_
    refine AW.jn h (fun v133_0 => [(2, .ptr 0 6 0 0), (3, .ptr 1 3 0 0), (6, vL i64V v25_0), (208, vL NodeA.enc p0.kids), (209, vI (p0.kids.length : Int)), (210, vI i124_0), (228, vB v133_0)]) (fun v133_0 => [vE p0.enc, vE v25_1.enc]) (fun oJ134 h => ?_) fun v133_0 h => ?_
    ·refine AW.rp ?_
     refine pm h tree_Sort_ok fun r135 hx136 h => ?_
     refine bx h fun x137 h0 h1 h => ?_
     refine sK h (fun hb139 h => ?_) fun hb139 h => ?_
     ·exact ja [0, 1] h
     refine pm h (hself37 _ _) fun r140 hx141 h => ?_
     exact ja [0, 1] h
    refine AW.tk h (fun hb142 h => ?_) fun hb142 h => ?_
    ·refine AW.ro ?_
     refine AW.ret ?_
     have h := up h hJ130
     have h := up h hJ127
     cases h; refine nz ?_; exact .same _
    exact jo [0, 1] h
   refine AW.rp ?_
   exact na [0, 1] h
  refine AW.ex ?_
  exact jo [0] h
 refine AW.ks [0] [2] ?_
 refine AW.one ?_
 refine AW.ro ?_
 refine AW.ks [0] [2, 232] ?_
 refine AW.tk h (fun hb143 h => ?_) fun hb143 h => ?_
 ·refine AW.ro ?_
  refine bx h fun x144 h0 h1 h => ?_
  refine sK h (fun hb146 h => ?_) fun hb146 h => ?_
  ·refine AW.ret ?_
   cases h; refine nz ?_; exact .same _
  refine AW.ret ?_
  cases h; refine nz ?_; exact .same _
 refine AW.ks [0] [2] ?_
 refine AW.one ?_
 refine AW.ro ?_
 refine AW.ks [0] [2, 251] ?_
 refine AW.tk h (fun hb147 h => ?_) fun hb147 h => ?_
 ·refine AW.ro ?_
  refine bx h fun x148 h0 h1 h => ?_
  refine AW.kr [5] [14] ?_
  refine sK h (fun hb150 h => ?_) fun hb150 h => ?_
  ·refine sK h (fun hb151 h => ?_) fun hb151 h => ?_
   ·refine AW.ret ?_
    cases h; refine nz ?_; exact .same _
   refine sK h (fun hb152 h => ?_) fun hb152 h => ?_
   ·refine bx h fun x153 h0 h1 h => ?_
    refine AW.ret ?_
    cases h; refine nz ?_; exact .same _
   refine AW.ret ?_
   cases h; refine nz ?_; exact .same _
  refine AW.ret ?_
  cases h; refine nz ?_; exact .same _
 refine AW.kr [] [] ?_
 refine AW.ret ?_
 cases h; refine nz ?_; exact .same _
def tree_formed (K : Nat) (p0 : NodeA) (p1 : Tree_placeA) : Option Bool := iter K (fun self q => tree_formed_body K self q.1 q.2) (p0, p1)
theorem key_tree_formed {K : Nat} (k : Nat) : (∀ (q : NodeA × Tree_placeA) (r : Bool), iter k (fun self q => tree_formed_body K self q.1 q.2) q = some r → Cn Tryz.prog 37 [aggV q.1.enc, aggV q.2.enc] (.d (.val (.bool r)))) := by
 induction k with
 | zero => exact fun q r h => by cases h
 | succ k ih => exact fun q r h => tree_formed_step K _ ih q.1 q.2 r h
theorem tree_formed_ok {K : Nat} {p0 : NodeA} {p1 : Tree_placeA} {r : Bool} (h : tree_formed K p0 p1 = some r) : Cn Tryz.prog 37 [aggV p0.enc, aggV p1.enc] (.d (.val (.bool r))) := (key_tree_formed K) (p0, p1) r h
/-! ### isochrone/tree.within -/
def tree_within_body (K : Nat) (self36 : (NodeA × Int × Int) → Option (Bool × Int)) (p0 : NodeA) (p1 : Int) (p2 : Int) : Option (Bool × Int) := ((
  ((
   if (decide ((IntKind.wrap .i64 (p1 - (1 : Int))) < (0 : Int))) then
    some true
   else
    some (decide (p2 ≤ (0 : Int)))) : Option Bool).bind (fun v3_0 =>
  if v3_0 then
   outM (
    some (false, IntKind.wrap .i64 (p1 - (1 : Int))))
  else
   some (.go ()))) : Option (Out Unit _)).bind (Out.fin fun _ =>
 ((iter (S := Int × Int) (R := Out Int _) K (fun again (i7_0, i7_1) =>
  if (decide (i7_0 < (p0.kids.length : Int))) then
   (idx p0.kids i7_0).bind fun x12 =>
   (self36 (x12, i7_1, IntKind.wrap .i64 (p2 - (1 : Int)))).bind fun r14 =>
   if (!r14.1) then
    outM (
     some (false, r14.2))
   else
    again (IntKind.wrap .i64 (i7_0 + (1 : Int)), r14.2)
  else
   some (.go i7_1)) ((0 : Int), IntKind.wrap .i64 (p1 - (1 : Int)))) : Option (Out Int _)).bind (Out.fin fun e8_0 =>
 some (true, e8_0)))
set_option maxHeartbeats 4000000 in
theorem tree_within_step (K : Nat) (self36 : (NodeA × Int × Int) → Option (Bool × Int)) (hself36 : ∀ (q : NodeA × Int × Int) (r : Bool × Int), self36 q = some r → Cl Tryz.prog 36 [aggV q.1.enc, .ptr 0 1 0 0, .d (.val (.int .i64 q.2.2))] [⟨1, [[.d (.val (.int .i64 q.2.1))]]⟩] (.d (.val (.bool r.1))) [⟨1, [[.d (.val (.int .i64 r.2))]]⟩]) (p0 : NodeA) (p1 : Int) (p2 : Int) (r : Bool × Int) (h : tree_within_body K self36 p0 p1 p2 = some r) : Cl Tryz.prog 36 [aggV p0.enc, .ptr 0 1 0 0, .d (.val (.int .i64 p2))] [⟨1, [[.d (.val (.int .i64 p1))]]⟩] (.d (.val (.bool r.1))) [⟨1, [[.d (.val (.int .i64 r.2))]]⟩] := by
 refine Cl.ofA mixed Tryz.func36 rfl Tryz.call36 Tryz.ntmps36 Tryz.results36 (by simp) rfl (by simp only [go_sem, reduceEqDiff, reduceAdd, reduceSub, reduceMul, reduceLeDiff, reduceLT, Nat.reduceBEq, reduceIte, List.length_cons]) (by simp only [go_sem, reduceEqDiff, reduceAdd, reduceSub, reduceMul, reduceLeDiff, reduceLT, Nat.reduceBEq, reduceIte]) (by simp only [go_sem, reduceEqDiff, reduceAdd, reduceSub, reduceMul, reduceLeDiff, reduceLT, Nat.reduceBEq, reduceIte]) (by simp only [go_sem, reduceEqDiff, reduceAdd, reduceSub, reduceMul, reduceLeDiff, reduceLT, Nat.reduceBEq, reduceIte]) fun hfit => ?_
 unfold tree_within_body at h
 refine AW.kr [0] [0, 1, 2] ?_
 refine AW.kr [0, 1] [1, 2, 3] ?_
 refine AW.ks [0, 1] [1, 2, 3] ?_
 refine AW.jo h (fun _ => [(1, .ptr 0 1 0 0), (2, vI p2), (3, .ptr 1 6 0 0)]) (fun _ => [vE1 (vI (IntKind.wrap .i64 (p1 - (1 : Int)))), vE p0.enc]) (fun oJ2 h hJ2 => ?_) fun ⟨⟩ h => ?_
 ·refine AW.jn h (fun v3_0 => [(1, .ptr 0 1 0 0), (2, vI p2), (3, .ptr 1 6 0 0), (21, vB v3_0)]) (fun v3_0 => [vE1 (vI (IntKind.wrap .i64 (p1 - (1 : Int)))), vE p0.enc]) (fun oJ4 h => ?_) fun v3_0 h => ?_
  ·refine AW.rp ?_
   refine sK h (fun hb5 h => ?_) fun hb5 h => ?_
   ·exact ja [0, 1] h
   exact ja [0, 1] h
  refine AW.tk h (fun hb6 h => ?_) fun hb6 h => ?_
  ·refine AW.ro ?_
   refine AW.ret ?_
   have h := up h hJ2
   cases h; refine nz ?_; exact ⟨.same _, ⟨⟨.same _, trivial⟩, trivial⟩⟩
  exact jo [0, 1] h
 refine AW.one ?_
 refine AW.ro ?_
 refine AW.ks [0] [1, 2, 23, 24, 25] ?_
 refine AW.lp h (fun e8_0 => []) (fun e8_0 => [vE1 (vI e8_0)]) (fun (i7_0, i7_1) => [(1, .ptr 0 1 0 0), (2, vI p2), (23, vL NodeA.enc p0.kids), (24, vI (p0.kids.length : Int)), (25, vI i7_0)]) (fun (i7_0, i7_1) => [vE1 (vI i7_1)]) [0] (fun oJ10 hJ10 again ⟨i7_0, i7_1⟩ h => ?_) fun e8_0 h => ?_
 ·try dsimp only at h
  refine AW.ro ?_
  refine AW.ks [0] [1, 2, 23, 24, 25, 26] ?_
  refine AW.one ?_
  refine AW.tt h (fun hb11 h => ?_) fun hb11 h => ?_
  ·refine AW.sk ?_
   refine AW.ks [0] [1, 2, 23, 24, 25] ?_
   refine AW.one ?_
   refine AW.block ?_
   refine AW.ro ?_
   refine bx h fun x12 h0 h1 h => ?_
   refine AW.kr [0, 3] [1, 2, 8, 23, 24, 25] ?_
   apply bE h; intro r14 hx15 h
   have hc := nx (hself36 _ _ hx15)
   refine callK_loc [0] hc (by simp only [go_sem, reduceEqDiff, reduceAdd, reduceSub, reduceMul, reduceLeDiff, reduceLT, Nat.reduceBEq, reduceIte]) (by simp) (by simp only [go_sem, reduceEqDiff, reduceAdd, reduceSub, reduceMul, reduceLeDiff, reduceLT, Nat.reduceBEq, reduceIte]) ?_
   refine ns ?_
   refine AW.ks [0] [1, 2, 23, 24, 25, 34] ?_
   refine AW.tk h (fun hb16 h => ?_) fun hb16 h => ?_
   ·refine AW.ro ?_
    refine AW.ret ?_
    have h := up h hJ10
    cases h; refine nz ?_; exact ⟨.same _, ⟨⟨.same _, trivial⟩, trivial⟩⟩
   refine AW.ks [0] [1, 2, 23, 24, 25] ?_
   refine AW.rp ?_
   exact na [0] h
  refine AW.ex ?_
  exact jo [0] h
 refine AW.kr [0] [] ?_
 refine AW.ret ?_
 cases h; refine nz ?_; exact ⟨.same _, ⟨⟨.same _, trivial⟩, trivial⟩⟩
def tree_within (K : Nat) (p0 : NodeA) (p1 : Int) (p2 : Int) : Option (Bool × Int) := iter K (fun self q => tree_within_body K self q.1 q.2.1 q.2.2) (p0, p1, p2)
theorem key_tree_within {K : Nat} (k : Nat) : (∀ (q : NodeA × Int × Int) (r : Bool × Int), iter k (fun self q => tree_within_body K self q.1 q.2.1 q.2.2) q = some r → Cl Tryz.prog 36 [aggV q.1.enc, .ptr 0 1 0 0, .d (.val (.int .i64 q.2.2))] [⟨1, [[.d (.val (.int .i64 q.2.1))]]⟩] (.d (.val (.bool r.1))) [⟨1, [[.d (.val (.int .i64 r.2))]]⟩]) := by
 induction k with
 | zero => exact fun q r h => by cases h
 | succ k ih => exact fun q r h => tree_within_step K _ ih q.1 q.2.1 q.2.2 r h
theorem tree_within_ok {K : Nat} {p0 : NodeA} {p1 : Int} {p2 : Int} {r : Bool × Int} (h : tree_within K p0 p1 p2 = some r) : Cl Tryz.prog 36 [aggV p0.enc, .ptr 0 1 0 0, .d (.val (.int .i64 p2))] [⟨1, [[.d (.val (.int .i64 p1))]]⟩] (.d (.val (.bool r.1))) [⟨1, [[.d (.val (.int .i64 r.2))]]⟩] := (key_tree_within K) (p0, p1, p2) r h
/-! ### isochrone/tree.Check -/
def tree_Check (K : Nat) (p0 : NodeA) (p1 : Int) : Option Int := ((
  ((
   if (decide (p1 < (1 : Int))) then
    some true
   else
    some (decide ((3 : Int) < p1))) : Option Bool).bind (fun v3_0 =>
  if v3_0 then
   outM (
    some (1 : Int))
  else
   some (.go ()))) : Option (Out Unit _)).bind (Out.fin fun _ =>
 (tree_within K p0 (4000 : Int) (60 : Int)).bind fun r7 =>
 if (!r7.1) then
  some (2 : Int)
 else
  (tree_Sort K p0.op).bind fun r10 =>
  if (r10 != p1) then
   some (80 : Int)
  else
   (tree_formed K p0 (Tree_placeA.mk false false false)).bind fun r13 =>
   if (!r13) then
    some (3 : Int)
   else
    some (0 : Int))
set_option maxHeartbeats 4000000 in
theorem tree_Check_ok {K : Nat} {p0 : NodeA} {p1 : Int} {r : Int} (h : tree_Check K p0 p1 = some r) : Cn Tryz.prog 25 [aggV p0.enc, .d (.val (.int .i64 p1))] (.d (.val (.int .i64 r))) := by
 refine Cn.oz Tryz.func25 Tryz.call25 Tryz.ntmps25 Tryz.results25 fun hfit => ?_
 unfold tree_Check at h
 refine AW.kr [] [0, 1] ?_
 refine AW.ks [0] [1, 2] ?_
 refine AW.jo h (fun _ => [(1, vI p1), (2, .ptr 0 6 0 0)]) (fun _ => [vE p0.enc]) (fun oJ2 h hJ2 => ?_) fun ⟨⟩ h => ?_
 ·refine AW.jn h (fun v3_0 => [(1, vI p1), (2, .ptr 0 6 0 0), (11, vB v3_0)]) (fun v3_0 => [vE p0.enc]) (fun oJ4 h => ?_) fun v3_0 h => ?_
  ·refine AW.rp ?_
   refine sK h (fun hb5 h => ?_) fun hb5 h => ?_
   ·exact ja [0] h
   exact ja [0] h
  refine AW.tk h (fun hb6 h => ?_) fun hb6 h => ?_
  ·refine AW.ro ?_
   refine AW.ret ?_
   have h := up h hJ2
   cases h; refine nz ?_; exact .same _
  exact jo [0] h
 refine AW.ro ?_
 refine AW.ks [0, 1] [1, 2, 5] ?_
 refine AW.one ?_
 refine AW.ro ?_
 apply bE h; intro r7 hx8 h
 have hc := nx (tree_within_ok (h := hx8))
 refine callK_loc [1] hc (by simp only [go_sem, reduceEqDiff, reduceAdd, reduceSub, reduceMul, reduceLeDiff, reduceLT, Nat.reduceBEq, reduceIte]) (by simp) (by simp only [go_sem, reduceEqDiff, reduceAdd, reduceSub, reduceMul, reduceLeDiff, reduceLT, Nat.reduceBEq, reduceIte]) ?_
 refine ns ?_
 refine AW.ks [0] [1, 2, 14] ?_
 refine AW.tk h (fun hb9 h => ?_) fun hb9 h => ?_
 ·refine AW.ro ?_
  refine AW.ret ?_
  cases h; refine nz ?_; exact .same _
 refine AW.ks [0] [1, 2] ?_
 refine AW.one ?_
 refine AW.ro ?_
 refine cm h tree_Sort_ok fun r10 hx11 h => ?_
 refine AW.ks [0] [2, 19] ?_
 refine AW.tk h (fun hb12 h => ?_) fun hb12 h => ?_
 ·refine AW.ro ?_
  refine AW.ret ?_
  cases h; refine nz ?_; exact .same _
 refine AW.ks [0] [2] ?_
 refine AW.one ?_
 refine AW.ro ?_
 refine cm h tree_formed_ok fun r13 hx14 h => ?_
 refine AW.ks [] [23] ?_
 refine AW.tk h (fun hb15 h => ?_) fun hb15 h => ?_
 ·refine AW.ro ?_
  refine AW.ret ?_
  cases h; refine nz ?_; exact .same _
 refine AW.kr [] [] ?_
 refine AW.ret ?_
 cases h; refine nz ?_; exact .same _
/-! ### isochrone/static.check -/
def static_check (K : Nat) (p0 : NodeA) : Option Int := (tree_Sort K p0.op).bind fun r1 =>
 ((
  ((
   if (r1 == (0 : Int)) then
    some true
   else
    some (r1 == (4 : Int))) : Option Bool).bind (fun v5_0 =>
  if v5_0 then
   outM (
    some (80 : Int))
  else
   some (.go ()))) : Option (Out Unit _)).bind (Out.fin fun _ =>
 (tree_Check K p0 r1).bind fun r9 =>
 some r9)
set_option maxHeartbeats 4000000 in
theorem static_check_ok {K : Nat} {p0 : NodeA} {r : Int} (h : static_check K p0 = some r) : Cn Tryz.prog 47 [aggV p0.enc] (.d (.val (.int .i64 r))) := by
 refine Cn.oz Tryz.func47 Tryz.call47 Tryz.ntmps47 Tryz.results47 fun hfit => ?_
 unfold static_check at h
 refine AW.kr [] [0] ?_
 refine AW.kr [0] [1] ?_
 refine cm h tree_Sort_ok fun r1 hx2 h => ?_
 refine AW.ks [0] [1, 3] ?_
 refine AW.jo h (fun _ => [(1, .ptr 0 6 0 0), (3, vI r1)]) (fun _ => [vE p0.enc]) (fun oJ4 h hJ4 => ?_) fun ⟨⟩ h => ?_
 ·refine AW.jn h (fun v5_0 => [(1, .ptr 0 6 0 0), (3, vI r1), (12, vB v5_0)]) (fun v5_0 => [vE p0.enc]) (fun oJ6 h => ?_) fun v5_0 h => ?_
  ·refine AW.rp ?_
   refine sK h (fun hb7 h => ?_) fun hb7 h => ?_
   ·exact ja [0] h
   exact ja [0] h
  refine AW.tk h (fun hb8 h => ?_) fun hb8 h => ?_
  ·refine AW.ro ?_
   refine AW.ret ?_
   have h := up h hJ4
   cases h; refine nz ?_; exact .same _
  exact jo [0] h
 refine AW.ro ?_
 refine cm h tree_Check_ok fun r9 hx10 h => ?_
 refine AW.ret ?_
 cases h; refine nz ?_; exact .same _
/-! ### isochrone/static.Symbols -/
def static_Symbols (K : Nat) (p0 : NodeA) : Option ((List NodeA) × Int) := (static_check K p0).bind fun r1 =>
 if (r1 != (0 : Int)) then
  some ([], r1)
 else
  (static_SymbolsOf K p0).bind fun r4 =>
  some (r4, (0 : Int))
set_option maxHeartbeats 4000000 in
theorem static_Symbols_ok {K : Nat} {p0 : NodeA} {r : (List NodeA) × Int} (h : static_Symbols K p0 = some r) : Cn Tryz.prog 30 [aggV p0.enc] (.tup [.d (slD NodeA.enc r.1), .d (.val (.int .i64 r.2))]) := by
 refine Cn.oz Tryz.func30 Tryz.call30 Tryz.ntmps30 Tryz.results30 fun hfit => ?_
 unfold static_Symbols at h
 refine AW.kr [] [0] ?_
 refine AW.ks [0] [1] ?_
 refine AW.one ?_
 refine AW.ro ?_
 refine cm h static_check_ok fun r1 hx2 h => ?_
 refine AW.kr [0] [1, 4] ?_
 refine AW.ks [0] [1, 4, 8] ?_
 refine AW.tk h (fun hb3 h => ?_) fun hb3 h => ?_
 ·refine AW.ro ?_
  refine AW.ret ?_
  cases h; refine nz ?_; exact .tupL ⟨.nil, .same _, trivial⟩
 refine AW.kr [0] [1] ?_
 refine cm h static_SymbolsOf_ok fun r4 hx5 h => ?_
 refine AW.ret ?_
 cases h; refine nz ?_; exact .same _
/-! ### isochrone/axiom.Uses -/
def axiom_Uses (K : Nat) (p0 : ByteArray) : Option ((List NodeA) × Int) := (axiom_Get K p0).bind fun r1 =>
 if (r1.2 != (0 : Int)) then
  some ([], r1.2)
 else
  (static_Symbols K r1.1).bind fun r4 =>
  some (r4.1, r4.2)
set_option maxHeartbeats 4000000 in
theorem axiom_Uses_ok {K : Nat} {p0 : ByteArray} {r : (List NodeA) × Int} (h : axiom_Uses K p0 = some r) : Cn Tryz.prog 18 [.d (.val (.string p0))] (.tup [.d (slD NodeA.enc r.1), .d (.val (.int .i64 r.2))]) := by
 refine Cn.oz Tryz.func18 Tryz.call18 Tryz.ntmps18 Tryz.results18 fun hfit => ?_
 unfold axiom_Uses at h
 refine AW.kr [] [0] ?_
 refine AW.kr [] [0] ?_
 refine cm h axiom_Get_ok fun r1 hx2 h => ?_
 refine AW.ks [5] [4, 5] ?_
 refine AW.one ?_
 refine AW.ro ?_
 refine AW.ks [0] [4, 5, 12] ?_
 refine AW.tk h (fun hb3 h => ?_) fun hb3 h => ?_
 ·refine AW.ro ?_
  refine AW.ret ?_
  cases h; refine nz ?_; exact .tupL ⟨.nil, .same _, trivial⟩
 refine AW.kr [0] [4] ?_
 refine cm h static_Symbols_ok fun r4 hx5 h => ?_
 refine AW.ret ?_
 cases h; refine nz ?_; exact .same _
/-! ### isochrone/isochroneref08.Levels -/
def r08_Levels_body (K : Nat) (self33 : NodeA → Option Int) (p0 : NodeA) : Option Int := ((iter (S := Int × Int) (R := Int) K (fun again (i1_0, i1_1) =>
  if (decide (i1_1 < (p0.kids.length : Int))) then
   (idx p0.kids i1_1).bind fun x6 =>
   (self33 (x6)).bind fun r8 =>
   again ((if r8 > i1_0 then r8 else i1_0), IntKind.wrap .i64 (i1_1 + (1 : Int)))
  else
   some i1_0) ((0 : Int), (0 : Int))) : Option Int).bind (fun e2_0 =>
 some (IntKind.wrap .i64 (e2_0 + (1 : Int))))
set_option maxHeartbeats 4000000 in
theorem r08_Levels_step (K : Nat) (self33 : NodeA → Option Int) (hself33 : ∀ (q : NodeA) (r : Int), self33 q = some r → Cn Tryz.prog 33 [aggV q.enc] (.d (.val (.int .i64 r)))) (p0 : NodeA) (r : Int) (h : r08_Levels_body K self33 p0 = some r) : Cn Tryz.prog 33 [aggV p0.enc] (.d (.val (.int .i64 r))) := by
 refine Cn.oz Tryz.func33 Tryz.call33 Tryz.ntmps33 Tryz.results33 fun hfit => ?_
 unfold r08_Levels_body at h
 refine AW.kr [] [0] ?_
 refine AW.kr [0] [1] ?_
 refine AW.ks [0] [1, 3] ?_
 refine AW.one ?_
 refine AW.ro ?_
 refine AW.ks [0] [1, 3, 4] ?_
 refine AW.lm h (fun e2_0 => [(3, vI e2_0)]) (fun e2_0 => []) (fun (i1_0, i1_1) => [(1, .ptr 0 6 0 0), (3, vI i1_0), (4, vI i1_1)]) (fun (i1_0, i1_1) => [vE p0.enc]) [0] (fun oJ4 again ⟨i1_0, i1_1⟩ h => ?_) fun e2_0 h => ?_
 ·try dsimp only at h
  refine AW.one ?_
  refine AW.ro ?_
  refine AW.ks [0] [1, 3, 4, 9] ?_
  refine AW.tt h (fun hb5 h => ?_) fun hb5 h => ?_
  ·refine AW.sk ?_
   refine AW.ks [0] [1, 3, 4] ?_
   refine AW.one ?_
   refine AW.block ?_
   refine AW.rp ?_
   refine bx h fun x6 h0 h1 h => ?_
   refine cm h (hself33 _ _) fun r8 hx9 h => ?_
   refine AW.ks [0] [1, 3, 4] ?_
   refine AW.rp ?_
   exact na [0] h
  refine AW.ex ?_
  exact ja [] h
 refine AW.kr [] [3] ?_
 refine AW.ret ?_
 cases h; refine nz ?_; exact .same _
def r08_Levels (K : Nat) (p0 : NodeA) : Option Int := iter K (fun self q => r08_Levels_body K self q) p0
theorem key_r08_Levels {K : Nat} (k : Nat) : (∀ (q : NodeA) (r : Int), iter k (fun self q => r08_Levels_body K self q) q = some r → Cn Tryz.prog 33 [aggV q.enc] (.d (.val (.int .i64 r)))) := by
 induction k with
 | zero => exact fun q r h => by cases h
 | succ k ih => exact fun q r h => r08_Levels_step K _ ih q r h
theorem r08_Levels_ok {K : Nat} {p0 : NodeA} {r : Int} (h : r08_Levels K p0 = some r) : Cn Tryz.prog 33 [aggV p0.enc] (.d (.val (.int .i64 r))) := (key_r08_Levels K) p0 r h
/-! ### isochrone/isochroneref08.Size -/
def r08_Size_body (K : Nat) (self10 : NodeA → Option Int) (p0 : NodeA) : Option Int := ((iter (S := Int × Int) (R := Int) K (fun again (i1_0, i1_1) =>
  if (decide (i1_1 < (p0.kids.length : Int))) then
   (idx p0.kids i1_1).bind fun x6 =>
   (self10 (x6)).bind fun r8 =>
   again (IntKind.wrap .i64 (i1_0 + r8), IntKind.wrap .i64 (i1_1 + (1 : Int)))
  else
   some i1_0) ((1 : Int), (0 : Int))) : Option Int).bind (fun e2_0 =>
 some e2_0)
set_option maxHeartbeats 4000000 in
theorem r08_Size_step (K : Nat) (self10 : NodeA → Option Int) (hself10 : ∀ (q : NodeA) (r : Int), self10 q = some r → Cn Tryz.prog 10 [aggV q.enc] (.d (.val (.int .i64 r)))) (p0 : NodeA) (r : Int) (h : r08_Size_body K self10 p0 = some r) : Cn Tryz.prog 10 [aggV p0.enc] (.d (.val (.int .i64 r))) := by
 refine Cn.oz Tryz.func10 Tryz.call10 Tryz.ntmps10 Tryz.results10 fun hfit => ?_
 unfold r08_Size_body at h
 refine AW.kr [] [0] ?_
 refine AW.kr [0] [1] ?_
 refine AW.ks [0] [1, 3] ?_
 refine AW.one ?_
 refine AW.ro ?_
 refine AW.ks [0] [1, 3, 4] ?_
 refine AW.lm h (fun e2_0 => [(3, vI e2_0)]) (fun e2_0 => []) (fun (i1_0, i1_1) => [(1, .ptr 0 6 0 0), (3, vI i1_0), (4, vI i1_1)]) (fun (i1_0, i1_1) => [vE p0.enc]) [0] (fun oJ4 again ⟨i1_0, i1_1⟩ h => ?_) fun e2_0 h => ?_
 ·try dsimp only at h
  refine AW.one ?_
  refine AW.ro ?_
  refine AW.ks [0] [1, 3, 4, 9] ?_
  refine AW.tt h (fun hb5 h => ?_) fun hb5 h => ?_
  ·refine AW.sk ?_
   refine AW.ks [0] [1, 3, 4] ?_
   refine AW.one ?_
   refine AW.block ?_
   refine AW.rp ?_
   refine bx h fun x6 h0 h1 h => ?_
   refine cm h (hself10 _ _) fun r8 hx9 h => ?_
   refine AW.ks [0] [1, 3, 4] ?_
   refine AW.rp ?_
   exact na [0] h
  refine AW.ex ?_
  exact ja [] h
 refine AW.kr [] [3] ?_
 refine AW.ret ?_
 cases h; refine nz ?_; exact .same _
def r08_Size (K : Nat) (p0 : NodeA) : Option Int := iter K (fun self q => r08_Size_body K self q) p0
theorem key_r08_Size {K : Nat} (k : Nat) : (∀ (q : NodeA) (r : Int), iter k (fun self q => r08_Size_body K self q) q = some r → Cn Tryz.prog 10 [aggV q.enc] (.d (.val (.int .i64 r)))) := by
 induction k with
 | zero => exact fun q r h => by cases h
 | succ k ih => exact fun q r h => r08_Size_step K _ ih q r h
theorem r08_Size_ok {K : Nat} {p0 : NodeA} {r : Int} (h : r08_Size K p0 = some r) : Cn Tryz.prog 10 [aggV p0.enc] (.d (.val (.int .i64 r))) := (key_r08_Size K) p0 r h
/-! ### isochrone/isochroneref08.Sort -/
def r08_Sort (K : Nat) (p0 : Int) : Option Int := ((
  if (decide ((1 : Int) ≤ p0)) then
   some (decide (p0 ≤ (13 : Int)))
  else
   some false) : Option Bool).bind (fun v1_0 =>
 if v1_0 then
  some (1 : Int)
 else
  ((
   if (decide ((20 : Int) ≤ p0)) then
    some (decide (p0 ≤ (39 : Int)))
   else
    some false) : Option Bool).bind (fun v5_0 =>
  if v5_0 then
   some (2 : Int)
  else
   ((
    if (p0 == (55 : Int)) then
     some true
    else
     some (p0 == (56 : Int))) : Option Bool).bind (fun v9_0 =>
   if v9_0 then
    some (4 : Int)
   else
    ((
     if (decide ((50 : Int) ≤ p0)) then
      some (decide (p0 ≤ (62 : Int)))
     else
      some false) : Option Bool).bind (fun v13_0 =>
    if v13_0 then
     some (3 : Int)
    else
     some (0 : Int)))))
set_option maxHeartbeats 4000000 in
theorem r08_Sort_ok {K : Nat} {p0 : Int} {r : Int} (h : r08_Sort K p0 = some r) : Cn Tryz.prog 27 [.d (.val (.int .i64 p0))] (.d (.val (.int .i64 r))) := by
 refine Cn.oz Tryz.func27 Tryz.call27 Tryz.ntmps27 Tryz.results27 fun hfit => ?_
 unfold r08_Sort at h
 refine AW.kr [] [0] ?_
 refine AW.ks [] [0] ?_
 refine AW.one ?_
 refine AW.block ?_
 refine AW.jn h (fun v1_0 => [(0, vI p0), (3, vB v1_0)]) (fun v1_0 => []) (fun oJ2 h => ?_) fun v1_0 h => ?_
 ·refine AW.rp ?_
  refine sK h (fun hb3 h => ?_) fun hb3 h => ?_
  ·exact ja [] h
  exact ja [] h
 refine AW.tt h (fun hb4 h => ?_) fun hb4 h => ?_
 ·refine AW.ro ?_
  refine AW.ret ?_
  cases h; refine nz ?_; exact .same _
 refine AW.jn h (fun v5_0 => [(0, vI p0), (10, vB v5_0)]) (fun v5_0 => []) (fun oJ6 h => ?_) fun v5_0 h => ?_
 ·refine AW.rp ?_
  refine sK h (fun hb7 h => ?_) fun hb7 h => ?_
  ·exact ja [] h
  exact ja [] h
 refine AW.tt h (fun hb8 h => ?_) fun hb8 h => ?_
 ·refine AW.ro ?_
  refine AW.ret ?_
  cases h; refine nz ?_; exact .same _
 refine AW.jn h (fun v9_0 => [(0, vI p0), (17, vB v9_0)]) (fun v9_0 => []) (fun oJ10 h => ?_) fun v9_0 h => ?_
 ·refine AW.rp ?_
  refine sK h (fun hb11 h => ?_) fun hb11 h => ?_
  ·exact ja [] h
  exact ja [] h
 refine AW.tt h (fun hb12 h => ?_) fun hb12 h => ?_
 ·refine AW.ro ?_
  refine AW.ret ?_
  cases h; refine nz ?_; exact .same _
 refine AW.jn h (fun v13_0 => [(24, vB v13_0)]) (fun v13_0 => []) (fun oJ14 h => ?_) fun v13_0 h => ?_
 ·refine AW.rp ?_
  refine sK h (fun hb15 h => ?_) fun hb15 h => ?_
  ·exact ja [] h
  exact ja [] h
 refine AW.tk h (fun hb16 h => ?_) fun hb16 h => ?_
 ·refine AW.ro ?_
  refine AW.ret ?_
  cases h; refine nz ?_; exact .same _
 refine AW.kr [] [] ?_
 refine AW.ret ?_
 cases h; refine nz ?_; exact .same _
/-! ### isochrone/isochroneref08.letter -/
def r08_letter (K : Nat) (p0 : Int) : Option Bool := if (decide ((97 : Int) ≤ p0)) then
  if (decide (p0 ≤ (122 : Int))) then
   some true
  else
   if (decide ((65 : Int) ≤ p0)) then
    some (decide (p0 ≤ (90 : Int)))
   else
    some false
 else
  if (decide ((65 : Int) ≤ p0)) then
   some (decide (p0 ≤ (90 : Int)))
  else
   some false
set_option maxHeartbeats 4000000 in
theorem r08_letter_ok {K : Nat} {p0 : Int} {r : Bool} (h : r08_letter K p0 = some r) : Cn Tryz.prog 99 [.d (.val (.int .u8 p0))] (.d (.val (.bool r))) := by
 refine Cn.oz Tryz.func99 Tryz.call99 Tryz.ntmps99 Tryz.results99 fun hfit => ?_
 unfold r08_letter at h
 refine AW.kr [] [0] ?_
 refine AW.kr [] [0] ?_
 refine sK h (fun hb1 h => ?_) fun hb1 h => ?_
 ·refine sK h (fun hb2 h => ?_) fun hb2 h => ?_
  ·refine AW.ret ?_
   cases h; refine nz ?_; exact .same _
  refine sK h (fun hb3 h => ?_) fun hb3 h => ?_
  ·refine AW.ret ?_
   cases h; refine nz ?_; exact .same _
  refine AW.ret ?_
  cases h; refine nz ?_; exact .same _
 refine sK h (fun hb4 h => ?_) fun hb4 h => ?_
 ·refine AW.ret ?_
  cases h; refine nz ?_; exact .same _
 refine AW.ret ?_
 cases h; refine nz ?_; exact .same _
/-! ### isochrone/isochroneref08.Name -/
def r08_Name (K : Nat) (p0 : ByteArray) : Option Bool := ((
  ((
   if ((p0.size : Int) == (0 : Int)) then
    some true
   else
    if (decide ((12 : Int) < (p0.size : Int))) then
     some true
    else
     if (p0.toList == (⟨#[116, 114, 117, 101]⟩ : ByteArray).toList) then
      some true
     else
      if (p0.toList == (⟨#[102, 97, 108, 115, 101]⟩ : ByteArray).toList) then
       some true
      else
       if (p0.toList == (⟨#[102, 111, 114, 97, 108, 108]⟩ : ByteArray).toList) then
        some true
       else
        some (p0.toList == (⟨#[101, 120, 105, 115, 116, 115]⟩ : ByteArray).toList)) : Option Bool).bind (fun v3_0 =>
  if v3_0 then
   outM (
    some false)
  else
   some (.go ()))) : Option (Out Unit _)).bind (Out.fin fun _ =>
 ((iter (S := Int) (R := Out Unit _) K (fun again i11_0 =>
  if (decide (i11_0 < (p0.size : Int))) then
   ((
    ((
     (strAt p0 i11_0).bind fun c20 =>
     (r08_letter K (c20.toNat : Int)).bind fun r22 =>
     if (!r22) then
      if (i11_0 == (0 : Int)) then
       some true
      else
       if (decide ((c20.toNat : Int) < (48 : Int))) then
        some true
       else
        some (decide ((57 : Int) < (c20.toNat : Int)))
     else
      some false) : Option Bool).bind (fun v18_0 =>
    if v18_0 then
     outM (
      outM (
       some false))
    else
     some (.go ()))) : Option (Out Unit _)).bind (Out.fin fun _ =>
   again (IntKind.wrap .i64 (i11_0 + (1 : Int))))
  else
   some (.go ())) (0 : Int)) : Option (Out Unit _)).bind (Out.fin fun _ =>
 some true))
set_option maxHeartbeats 4000000 in
theorem r08_Name_ok {K : Nat} {p0 : ByteArray} {r : Bool} (h : r08_Name K p0 = some r) : Cn Tryz.prog 54 [.d (.val (.string p0))] (.d (.val (.bool r))) := by
 refine Cn.oz Tryz.func54 Tryz.call54 Tryz.ntmps54 Tryz.results54 fun hfit => ?_
 unfold r08_Name at h
 refine AW.kr [] [0] ?_
 refine AW.ks [] [0] ?_
 refine AW.jo h (fun _ => [(0, vS p0)]) (fun _ => []) (fun oJ2 h hJ2 => ?_) fun ⟨⟩ h => ?_
 ·refine AW.jn h (fun v3_0 => [(0, vS p0), (27, vB v3_0)]) (fun v3_0 => []) (fun oJ4 h => ?_) fun v3_0 h => ?_
  ·refine AW.rp ?_
   refine sK h (fun hb5 h => ?_) fun hb5 h => ?_
   ·exact ja [] h
   refine sK h (fun hb6 h => ?_) fun hb6 h => ?_
   ·exact ja [] h
   refine sK h (fun hb7 h => ?_) fun hb7 h => ?_
   ·exact ja [] h
   refine sK h (fun hb8 h => ?_) fun hb8 h => ?_
   ·exact ja [] h
   refine sK h (fun hb9 h => ?_) fun hb9 h => ?_
   ·exact ja [] h
   exact ja [] h
  refine AW.tk h (fun hb10 h => ?_) fun hb10 h => ?_
  ·refine AW.ro ?_
   refine AW.ret ?_
   have h := up h hJ2
   cases h; refine nz ?_; exact .same _
  exact jo [] h
 refine AW.one ?_
 refine AW.ro ?_
 refine AW.ks [] [0, 3] ?_
 refine AW.lp h (fun _ => []) (fun _ => []) (fun i11_0 => [(0, vS p0), (3, vI i11_0)]) (fun i11_0 => []) [] (fun oJ14 hJ14 again i11_0 h => ?_) fun ⟨⟩ h => ?_
 ·refine AW.one ?_
  refine AW.ro ?_
  refine AW.ks [] [0, 3, 31] ?_
  refine AW.tt h (fun hb15 h => ?_) fun hb15 h => ?_
  ·refine AW.sk ?_
   refine AW.ks [] [0, 3] ?_
   refine AW.jo h (fun _ => [(0, vS p0), (3, vI i11_0)]) (fun _ => []) (fun oJ17 h hJ17 => ?_) fun ⟨⟩ h => ?_
   ·refine AW.block ?_
    refine AW.jn h (fun v18_0 => [(0, vS p0), (3, vI i11_0), (54, vB v18_0)]) (fun v18_0 => []) (fun oJ19 h => ?_) fun v18_0 h => ?_
    ·refine AW.rp ?_
     refine bb h fun c20 hx21 h => ?_
     refine cm h r08_letter_ok fun r22 hx23 h => ?_
     refine sK h (fun hb24 h => ?_) fun hb24 h => ?_
     ·refine sK h (fun hb25 h => ?_) fun hb25 h => ?_
      ·exact ja [] h
      refine sK h (fun hb26 h => ?_) fun hb26 h => ?_
      ·exact ja [] h
      exact ja [] h
     exact ja [] h
    refine AW.tk h (fun hb27 h => ?_) fun hb27 h => ?_
    ·refine AW.ro ?_
     refine AW.ret ?_
     have h := up h hJ17
     have h := up h hJ14
     cases h; refine nz ?_; exact .same _
    exact jo [] h
   refine AW.rp ?_
   exact na [] h
  refine AW.ex ?_
  exact jo [] h
 refine AW.kr [] [] ?_
 refine AW.ret ?_
 cases h; refine nz ?_; exact .same _
/-! ### isochrone/isochroneref08.Natural -/
def r08_Natural (K : Nat) (p0 : RatA) (p1 : Int) : Option Int := if ((p0.num.length : Int) == (0 : Int)) then
  some (0 : Int)
 else
  ((
   ((
    if (decide ((1 : Int) < (p0.num.length : Int))) then
     some true
    else
     (idx p0.num (0 : Int)).bind fun x7 =>
     some (decide (p1 < (IntKind.wrap .i64 x7)))) : Option Bool).bind (fun v4_0 =>
   if v4_0 then
    outM (
     some (-1 : Int))
   else
    some (.go ()))) : Option (Out Unit _)).bind (Out.fin fun _ =>
  (idx p0.num (0 : Int)).bind fun x10 =>
  some (IntKind.wrap .i64 x10))
set_option maxHeartbeats 4000000 in
theorem r08_Natural_ok {K : Nat} {p0 : RatA} {p1 : Int} {r : Int} (h : r08_Natural K p0 p1 = some r) : Cn Tryz.prog 58 [aggV p0.enc, .d (.val (.int .i64 p1))] (.d (.val (.int .i64 r))) := by
 have q0 := fun k z => cv_int (k' := k) (z := z) Tryz.underlying96 Tryz.underlying2
 have q1 := fun k z => cv_int (k' := k) (z := z) Tryz.underlying96 Tryz.underlying3
 refine Cn.oz Tryz.func58 Tryz.call58 Tryz.ntmps58 Tryz.results58 fun hfit => ?_
 unfold r08_Natural at h
 refine AW.kr [] [0, 1] ?_
 refine AW.ks [0] [1, 2] ?_
 refine AW.one ?_
 refine AW.ro ?_
 refine AW.ks [0] [1, 2, 8] ?_
 refine AW.tk h (fun hb1 h => ?_) fun hb1 h => ?_
 ·refine AW.ro ?_
  refine AW.ret ?_
  cases h; refine nz ?_; exact .same _
 refine AW.ks [0] [1, 2] ?_
 refine AW.jo h (fun _ => [(2, .ptr 0 3 0 0)]) (fun _ => [vE p0.enc]) (fun oJ3 h hJ3 => ?_) fun ⟨⟩ h => ?_
 ·refine AW.jn h (fun v4_0 => [(2, .ptr 0 3 0 0), (21, vB v4_0)]) (fun v4_0 => [vE p0.enc]) (fun oJ5 h => ?_) fun v4_0 h => ?_
  ·refine AW.rp ?_
   refine sK h (fun hb6 h => ?_) fun hb6 h => ?_
   ·exact ja [0] h
   refine bx h fun x7 h0 h1 h => ?_
   exact ja [0] h
  refine AW.tk h (fun hb9 h => ?_) fun hb9 h => ?_
  ·refine AW.ro ?_
   refine AW.ret ?_
   have h := up h hJ3
   cases h; refine nz ?_; exact .same _
  exact jo [0] h
 refine AW.ro ?_
 refine bx h fun x10 h0 h1 h => ?_
 refine AW.ret ?_
 cases h; refine nz ?_; exact .same _
/-! ### isochrone/isochroneref08.differential -/
def r08_differential_body (K : Nat) (self59 : NodeA → Option Bool) (p0 : NodeA) : Option Bool := ((
  if (p0.op == (20 : Int)) then
   some true
  else
   if (p0.op == (21 : Int)) then
    some true
   else
    if (decide ((22 : Int) ≤ p0.op)) then
     if (decide (p0.op ≤ (27 : Int))) then
      some true
     else
      if (p0.op == (37 : Int)) then
       some true
      else
       some (p0.op == (38 : Int))
    else
     if (p0.op == (37 : Int)) then
      some true
     else
      some (p0.op == (38 : Int))) : Option Bool).bind (fun v1_0 =>
 if v1_0 then
  some true
 else
  ((
   if (p0.op == (29 : Int)) then
    some true
   else
    some (p0.op == (30 : Int))) : Option Bool).bind (fun v10_0 =>
  if v10_0 then
   ((iter (S := Int) (R := Out Unit _) K (fun again i14_0 =>
    if (decide (i14_0 < (p0.kids.length : Int))) then
     (idx p0.kids i14_0).bind fun x19 =>
     (self59 (x19)).bind fun r21 =>
     if (!r21) then
      outM (
       some false)
     else
      again (IntKind.wrap .i64 (i14_0 + (1 : Int)))
    else
     some (.go ())) (0 : Int)) : Option (Out Unit _)).bind (Out.fin fun _ =>
   some true)
  else
   some false))
set_option maxHeartbeats 4000000 in
theorem r08_differential_step (K : Nat) (self59 : NodeA → Option Bool) (hself59 : ∀ (q : NodeA) (r : Bool), self59 q = some r → Cn Tryz.prog 59 [aggV q.enc] (.d (.val (.bool r)))) (p0 : NodeA) (r : Bool) (h : r08_differential_body K self59 p0 = some r) : Cn Tryz.prog 59 [aggV p0.enc] (.d (.val (.bool r))) := by
 refine Cn.oz Tryz.func59 Tryz.call59 Tryz.ntmps59 Tryz.results59 fun hfit => ?_
 unfold r08_differential_body at h
 refine AW.kr [] [0] ?_
 refine AW.ks [0] [1] ?_
 refine AW.one ?_
 refine AW.block ?_
 refine AW.jn h (fun v1_0 => [(1, .ptr 0 6 0 0), (4, vB v1_0)]) (fun v1_0 => [vE p0.enc]) (fun oJ2 h => ?_) fun v1_0 h => ?_
 ·refine AW.rp ?_
  refine sK h (fun hb3 h => ?_) fun hb3 h => ?_
  ·exact ja [0] h
  refine sK h (fun hb4 h => ?_) fun hb4 h => ?_
  ·exact ja [0] h
  refine sK h (fun hb5 h => ?_) fun hb5 h => ?_
  ·refine sK h (fun hb6 h => ?_) fun hb6 h => ?_
   ·exact ja [0] h
   refine sK h (fun hb7 h => ?_) fun hb7 h => ?_
   ·exact ja [0] h
   exact ja [0] h
  refine sK h (fun hb8 h => ?_) fun hb8 h => ?_
  ·exact ja [0] h
  exact ja [0] h
 refine AW.tt h (fun hb9 h => ?_) fun hb9 h => ?_
 ·refine AW.ro ?_
  refine AW.ret ?_
  cases h; refine nz ?_; exact .same _
 refine AW.jn h (fun v10_0 => [(1, .ptr 0 6 0 0), (33, vB v10_0)]) (fun v10_0 => [vE p0.enc]) (fun oJ11 h => ?_) fun v10_0 h => ?_
 ·refine AW.rp ?_
  refine sK h (fun hb12 h => ?_) fun hb12 h => ?_
  ·exact ja [0] h
  exact ja [0] h
 refine AW.tk h (fun hb13 h => ?_) fun hb13 h => ?_
 ·refine AW.one ?_
  refine AW.ro ?_
  refine AW.ks [0] [1, 3] ?_
  refine AW.lp h (fun _ => []) (fun _ => []) (fun i14_0 => [(1, .ptr 0 6 0 0), (3, vI i14_0)]) (fun i14_0 => [vE p0.enc]) [0] (fun oJ17 hJ17 again i14_0 h => ?_) fun ⟨⟩ h => ?_
  ·refine AW.one ?_
   refine AW.ro ?_
   refine AW.ks [0] [1, 3, 46] ?_
   refine AW.tt h (fun hb18 h => ?_) fun hb18 h => ?_
   ·refine AW.sk ?_
    refine AW.ks [0] [1, 3] ?_
    refine AW.one ?_
    refine AW.block ?_
    refine AW.ro ?_
    refine bx h fun x19 h0 h1 h => ?_
    refine cm h (hself59 _ _) fun r21 hx22 h => ?_
    refine AW.ks [0] [1, 3, 55] ?_
    refine AW.tk h (fun hb23 h => ?_) fun hb23 h => ?_
    ·refine AW.ro ?_
     refine AW.ret ?_
     have h := up h hJ17
     cases h; refine nz ?_; exact .same _
    refine AW.ks [0] [1, 3] ?_
    refine AW.rp ?_
    exact na [0] h
   refine AW.ex ?_
   exact jo [] h
  refine AW.kr [] [] ?_
  refine AW.ret ?_
  cases h; refine nz ?_; exact .same _
 refine AW.kr [] [] ?_
 refine AW.ret ?_
 cases h; refine nz ?_; exact .same _
def r08_differential (K : Nat) (p0 : NodeA) : Option Bool := iter K (fun self q => r08_differential_body K self q) p0
theorem key_r08_differential {K : Nat} (k : Nat) : (∀ (q : NodeA) (r : Bool), iter k (fun self q => r08_differential_body K self q) q = some r → Cn Tryz.prog 59 [aggV q.enc] (.d (.val (.bool r)))) := by
 induction k with
 | zero => exact fun q r h => by cases h
 | succ k ih => exact fun q r h => r08_differential_step K _ ih q r h
theorem r08_differential_ok {K : Nat} {p0 : NodeA} {r : Bool} (h : r08_differential K p0 = some r) : Cn Tryz.prog 59 [aggV p0.enc] (.d (.val (.bool r))) := (key_r08_differential K) p0 r h
/-! ### isochrone/isochroneref08.kids -/
def r08_kids (K : Nat) (p0 : Int) : Option ByteArray := ((
  if (p0 == (4 : Int)) then
   some (p0 == (4 : Int))
  else
   if (p0 == (12 : Int)) then
    some (p0 == (12 : Int))
   else
    if (p0 == (50 : Int)) then
     some (p0 == (50 : Int))
    else
     if (p0 == (51 : Int)) then
      some (p0 == (51 : Int))
     else
      some (p0 == (55 : Int))) : Option Bool).bind (fun v1_0 =>
 if v1_0 then
  some (⟨#[49]⟩ : ByteArray)
 else
  ((
   if (p0 == (5 : Int)) then
    some (p0 == (5 : Int))
   else
    if (p0 == (6 : Int)) then
     some (p0 == (6 : Int))
    else
     if (p0 == (7 : Int)) then
      some (p0 == (7 : Int))
     else
      if (p0 == (8 : Int)) then
       some (p0 == (8 : Int))
      else
       if (p0 == (9 : Int)) then
        some (p0 == (9 : Int))
       else
        if (p0 == (22 : Int)) then
         some (p0 == (22 : Int))
        else
         if (p0 == (23 : Int)) then
          some (p0 == (23 : Int))
         else
          if (p0 == (24 : Int)) then
           some (p0 == (24 : Int))
          else
           if (p0 == (25 : Int)) then
            some (p0 == (25 : Int))
           else
            if (p0 == (26 : Int)) then
             some (p0 == (26 : Int))
            else
             some (p0 == (27 : Int))) : Option Bool).bind (fun v8_0 =>
  if v8_0 then
   some (⟨#[49, 49]⟩ : ByteArray)
  else
   ((
    if (p0 == (28 : Int)) then
     some (p0 == (28 : Int))
    else
     if (p0 == (33 : Int)) then
      some (p0 == (33 : Int))
     else
      if (p0 == (34 : Int)) then
       some (p0 == (34 : Int))
      else
       if (p0 == (39 : Int)) then
        some (p0 == (39 : Int))
       else
        some (p0 == (53 : Int))) : Option Bool).bind (fun v21_0 =>
   if v21_0 then
    some (⟨#[50]⟩ : ByteArray)
   else
    ((
     if (p0 == (29 : Int)) then
      some (p0 == (29 : Int))
     else
      if (p0 == (30 : Int)) then
       some (p0 == (30 : Int))
      else
       if (p0 == (31 : Int)) then
        some (p0 == (31 : Int))
       else
        some (p0 == (32 : Int))) : Option Bool).bind (fun v28_0 =>
    if v28_0 then
     some (⟨#[50, 50]⟩ : ByteArray)
    else
     ((
      if (p0 == (35 : Int)) then
       some (p0 == (35 : Int))
      else
       some (p0 == (36 : Int))) : Option Bool).bind (fun v34_0 =>
     if v34_0 then
      some (⟨#[51, 50]⟩ : ByteArray)
     else
      ((
       if (p0 == (57 : Int)) then
        some (p0 == (57 : Int))
       else
        some (p0 == (58 : Int))) : Option Bool).bind (fun v38_0 =>
      if v38_0 then
       some (⟨#[51, 51]⟩ : ByteArray)
      else
       ((
        if (p0 == (59 : Int)) then
         some (p0 == (59 : Int))
        else
         some (p0 == (60 : Int))) : Option Bool).bind (fun v42_0 =>
       if v42_0 then
        some (⟨#[51]⟩ : ByteArray)
       else
        some (⟨#[]⟩ : ByteArray))))))))
set_option maxHeartbeats 4000000 in
theorem r08_kids_ok {K : Nat} {p0 : Int} {r : ByteArray} (h : r08_kids K p0 = some r) : Cn Tryz.prog 57 [.d (.val (.int .i64 p0))] (.d (.val (.string r))) := by
 refine Cn.oz Tryz.func57 Tryz.call57 Tryz.ntmps57 Tryz.results57 fun hfit => ?_
 unfold r08_kids at h
 refine AW.kr [] [0] ?_
 refine AW.ks [] [0] ?_
 refine AW.one ?_
 refine AW.ro ?_
 refine AW.ks [] [3] ?_
 refine AW.block ?_
 refine AW.jn h (fun v1_0 => [(3, vI p0), (4, vB v1_0)]) (fun v1_0 => []) (fun oJ2 h => ?_) fun v1_0 h => ?_
 ·refine AW.ro ?_
  refine AW.ks [] [3, 4] ?_
  refine AW.tt h (fun hb3 h => ?_) fun hb3 h => ?_
  ·refine AW.sk ?_
   exact ja [] h
  refine AW.ro ?_
  refine AW.ks [] [3, 4] ?_
  refine AW.tt h (fun hb4 h => ?_) fun hb4 h => ?_
  ·refine AW.sk ?_
   exact ja [] h
  refine AW.ro ?_
  refine AW.ks [] [3, 4] ?_
  refine AW.tt h (fun hb5 h => ?_) fun hb5 h => ?_
  ·refine AW.sk ?_
   exact ja [] h
  refine AW.ro ?_
  refine AW.ks [] [3, 4] ?_
  refine AW.tt h (fun hb6 h => ?_) fun hb6 h => ?_
  ·refine AW.sk ?_
   exact ja [] h
  refine AW.rp ?_
  exact ja [] h
 refine AW.tt h (fun hb7 h => ?_) fun hb7 h => ?_
 ·refine AW.ro ?_
  refine AW.ret ?_
  cases h; refine nz ?_; exact .same _
 refine AW.jn h (fun v8_0 => [(3, vI p0), (10, vB v8_0)]) (fun v8_0 => []) (fun oJ9 h => ?_) fun v8_0 h => ?_
 ·refine AW.ro ?_
  refine AW.ks [] [3, 10] ?_
  refine AW.tt h (fun hb10 h => ?_) fun hb10 h => ?_
  ·refine AW.sk ?_
   exact ja [] h
  refine AW.ro ?_
  refine AW.ks [] [3, 10] ?_
  refine AW.tt h (fun hb11 h => ?_) fun hb11 h => ?_
  ·refine AW.sk ?_
   exact ja [] h
  refine AW.ro ?_
  refine AW.ks [] [3, 10] ?_
  refine AW.tt h (fun hb12 h => ?_) fun hb12 h => ?_
  ·refine AW.sk ?_
   exact ja [] h
  refine AW.ro ?_
  refine AW.ks [] [3, 10] ?_
  refine AW.tt h (fun hb13 h => ?_) fun hb13 h => ?_
  ·refine AW.sk ?_
   exact ja [] h
  refine AW.ro ?_
  refine AW.ks [] [3, 10] ?_
  refine AW.tt h (fun hb14 h => ?_) fun hb14 h => ?_
  ·refine AW.sk ?_
   exact ja [] h
  refine AW.ro ?_
  refine AW.ks [] [3, 10] ?_
  refine AW.tt h (fun hb15 h => ?_) fun hb15 h => ?_
  ·refine AW.sk ?_
   exact ja [] h
  refine AW.ro ?_
  refine AW.ks [] [3, 10] ?_
  refine AW.tt h (fun hb16 h => ?_) fun hb16 h => ?_
  ·refine AW.sk ?_
   exact ja [] h
  refine AW.ro ?_
  refine AW.ks [] [3, 10] ?_
  refine AW.tt h (fun hb17 h => ?_) fun hb17 h => ?_
  ·refine AW.sk ?_
   exact ja [] h
  refine AW.ro ?_
  refine AW.ks [] [3, 10] ?_
  refine AW.tt h (fun hb18 h => ?_) fun hb18 h => ?_
  ·refine AW.sk ?_
   exact ja [] h
  refine AW.ro ?_
  refine AW.ks [] [3, 10] ?_
  refine AW.tt h (fun hb19 h => ?_) fun hb19 h => ?_
  ·refine AW.sk ?_
   exact ja [] h
  refine AW.rp ?_
  exact ja [] h
 refine AW.tt h (fun hb20 h => ?_) fun hb20 h => ?_
 ·refine AW.ro ?_
  refine AW.ret ?_
  cases h; refine nz ?_; exact .same _
 refine AW.jn h (fun v21_0 => [(3, vI p0), (22, vB v21_0)]) (fun v21_0 => []) (fun oJ22 h => ?_) fun v21_0 h => ?_
 ·refine AW.ro ?_
  refine AW.ks [] [3, 22] ?_
  refine AW.tt h (fun hb23 h => ?_) fun hb23 h => ?_
  ·refine AW.sk ?_
   exact ja [] h
  refine AW.ro ?_
  refine AW.ks [] [3, 22] ?_
  refine AW.tt h (fun hb24 h => ?_) fun hb24 h => ?_
  ·refine AW.sk ?_
   exact ja [] h
  refine AW.ro ?_
  refine AW.ks [] [3, 22] ?_
  refine AW.tt h (fun hb25 h => ?_) fun hb25 h => ?_
  ·refine AW.sk ?_
   exact ja [] h
  refine AW.ro ?_
  refine AW.ks [] [3, 22] ?_
  refine AW.tt h (fun hb26 h => ?_) fun hb26 h => ?_
  ·refine AW.sk ?_
   exact ja [] h
  refine AW.rp ?_
  exact ja [] h
 refine AW.tt h (fun hb27 h => ?_) fun hb27 h => ?_
 ·refine AW.ro ?_
  refine AW.ret ?_
  cases h; refine nz ?_; exact .same _
 refine AW.jn h (fun v28_0 => [(3, vI p0), (28, vB v28_0)]) (fun v28_0 => []) (fun oJ29 h => ?_) fun v28_0 h => ?_
 ·refine AW.ro ?_
  refine AW.ks [] [3, 28] ?_
  refine AW.tt h (fun hb30 h => ?_) fun hb30 h => ?_
  ·refine AW.sk ?_
   exact ja [] h
  refine AW.ro ?_
  refine AW.ks [] [3, 28] ?_
  refine AW.tt h (fun hb31 h => ?_) fun hb31 h => ?_
  ·refine AW.sk ?_
   exact ja [] h
  refine AW.ro ?_
  refine AW.ks [] [3, 28] ?_
  refine AW.tt h (fun hb32 h => ?_) fun hb32 h => ?_
  ·refine AW.sk ?_
   exact ja [] h
  refine AW.rp ?_
  exact ja [] h
 refine AW.tt h (fun hb33 h => ?_) fun hb33 h => ?_
 ·refine AW.ro ?_
  refine AW.ret ?_
  cases h; refine nz ?_; exact .same _
 refine AW.jn h (fun v34_0 => [(3, vI p0), (33, vB v34_0)]) (fun v34_0 => []) (fun oJ35 h => ?_) fun v34_0 h => ?_
 ·refine AW.ro ?_
  refine AW.ks [] [3, 33] ?_
  refine AW.tt h (fun hb36 h => ?_) fun hb36 h => ?_
  ·refine AW.sk ?_
   exact ja [] h
  refine AW.rp ?_
  exact ja [] h
 refine AW.tt h (fun hb37 h => ?_) fun hb37 h => ?_
 ·refine AW.ro ?_
  refine AW.ret ?_
  cases h; refine nz ?_; exact .same _
 refine AW.jn h (fun v38_0 => [(3, vI p0), (36, vB v38_0)]) (fun v38_0 => []) (fun oJ39 h => ?_) fun v38_0 h => ?_
 ·refine AW.ro ?_
  refine AW.ks [] [3, 36] ?_
  refine AW.tt h (fun hb40 h => ?_) fun hb40 h => ?_
  ·refine AW.sk ?_
   exact ja [] h
  refine AW.rp ?_
  exact ja [] h
 refine AW.tt h (fun hb41 h => ?_) fun hb41 h => ?_
 ·refine AW.ro ?_
  refine AW.ret ?_
  cases h; refine nz ?_; exact .same _
 refine AW.jn h (fun v42_0 => [(39, vB v42_0)]) (fun v42_0 => []) (fun oJ43 h => ?_) fun v42_0 h => ?_
 ·refine AW.ro ?_
  refine AW.ks [] [3, 39] ?_
  refine AW.tt h (fun hb44 h => ?_) fun hb44 h => ?_
  ·refine AW.sk ?_
   exact ja [] h
  refine AW.rp ?_
  exact ja [] h
 refine AW.tk h (fun hb45 h => ?_) fun hb45 h => ?_
 ·refine AW.ro ?_
  refine AW.ret ?_
  cases h; refine nz ?_; exact .same _
 refine AW.kr [] [] ?_
 refine AW.ret ?_
 cases h; refine nz ?_; exact .same _
/-! ### isochrone/isochroneref08.named -/
def r08_named (K : Nat) (p0 : Int) : Option Bool := ((
  if (p0 == (2 : Int)) then
   some (p0 == (2 : Int))
  else
   if (p0 == (3 : Int)) then
    some (p0 == (3 : Int))
   else
    if (p0 == (10 : Int)) then
     some (p0 == (10 : Int))
    else
     if (p0 == (11 : Int)) then
      some (p0 == (11 : Int))
     else
      if (p0 == (33 : Int)) then
       some (p0 == (33 : Int))
      else
       if (p0 == (34 : Int)) then
        some (p0 == (34 : Int))
       else
        if (p0 == (37 : Int)) then
         some (p0 == (37 : Int))
        else
         if (p0 == (38 : Int)) then
          some (p0 == (38 : Int))
         else
          if (p0 == (50 : Int)) then
           some (p0 == (50 : Int))
          else
           if (p0 == (51 : Int)) then
            some (p0 == (51 : Int))
           else
            if (p0 == (52 : Int)) then
             some (p0 == (52 : Int))
            else
             if (p0 == (55 : Int)) then
              some (p0 == (55 : Int))
             else
              if (p0 == (56 : Int)) then
               some (p0 == (56 : Int))
              else
               if (p0 == (61 : Int)) then
                some (p0 == (61 : Int))
               else
                some (p0 == (62 : Int))) : Option Bool).bind (fun v1_0 =>
 if v1_0 then
  some true
 else
  some false)
set_option maxHeartbeats 4000000 in
theorem r08_named_ok {K : Nat} {p0 : Int} {r : Bool} (h : r08_named K p0 = some r) : Cn Tryz.prog 53 [.d (.val (.int .i64 p0))] (.d (.val (.bool r))) := by
 refine Cn.oz Tryz.func53 Tryz.call53 Tryz.ntmps53 Tryz.results53 fun hfit => ?_
 unfold r08_named at h
 refine AW.kr [] [0] ?_
 refine AW.ks [] [0] ?_
 refine AW.one ?_
 refine AW.ro ?_
 refine AW.ks [] [3] ?_
 refine AW.block ?_
 refine AW.jn h (fun v1_0 => [(4, vB v1_0)]) (fun v1_0 => []) (fun oJ2 h => ?_) fun v1_0 h => ?_
 ·refine AW.ro ?_
  refine AW.ks [] [3, 4] ?_
  refine AW.tt h (fun hb3 h => ?_) fun hb3 h => ?_
  ·refine AW.sk ?_
   exact ja [] h
  refine AW.ro ?_
  refine AW.ks [] [3, 4] ?_
  refine AW.tt h (fun hb4 h => ?_) fun hb4 h => ?_
  ·refine AW.sk ?_
   exact ja [] h
  refine AW.ro ?_
  refine AW.ks [] [3, 4] ?_
  refine AW.tt h (fun hb5 h => ?_) fun hb5 h => ?_
  ·refine AW.sk ?_
   exact ja [] h
  refine AW.ro ?_
  refine AW.ks [] [3, 4] ?_
  refine AW.tt h (fun hb6 h => ?_) fun hb6 h => ?_
  ·refine AW.sk ?_
   exact ja [] h
  refine AW.ro ?_
  refine AW.ks [] [3, 4] ?_
  refine AW.tt h (fun hb7 h => ?_) fun hb7 h => ?_
  ·refine AW.sk ?_
   exact ja [] h
  refine AW.ro ?_
  refine AW.ks [] [3, 4] ?_
  refine AW.tt h (fun hb8 h => ?_) fun hb8 h => ?_
  ·refine AW.sk ?_
   exact ja [] h
  refine AW.ro ?_
  refine AW.ks [] [3, 4] ?_
  refine AW.tt h (fun hb9 h => ?_) fun hb9 h => ?_
  ·refine AW.sk ?_
   exact ja [] h
  refine AW.ro ?_
  refine AW.ks [] [3, 4] ?_
  refine AW.tt h (fun hb10 h => ?_) fun hb10 h => ?_
  ·refine AW.sk ?_
   exact ja [] h
  refine AW.ro ?_
  refine AW.ks [] [3, 4] ?_
  refine AW.tt h (fun hb11 h => ?_) fun hb11 h => ?_
  ·refine AW.sk ?_
   exact ja [] h
  refine AW.ro ?_
  refine AW.ks [] [3, 4] ?_
  refine AW.tt h (fun hb12 h => ?_) fun hb12 h => ?_
  ·refine AW.sk ?_
   exact ja [] h
  refine AW.ro ?_
  refine AW.ks [] [3, 4] ?_
  refine AW.tt h (fun hb13 h => ?_) fun hb13 h => ?_
  ·refine AW.sk ?_
   exact ja [] h
  refine AW.ro ?_
  refine AW.ks [] [3, 4] ?_
  refine AW.tt h (fun hb14 h => ?_) fun hb14 h => ?_
  ·refine AW.sk ?_
   exact ja [] h
  refine AW.ro ?_
  refine AW.ks [] [3, 4] ?_
  refine AW.tt h (fun hb15 h => ?_) fun hb15 h => ?_
  ·refine AW.sk ?_
   exact ja [] h
  refine AW.ro ?_
  refine AW.ks [] [3, 4] ?_
  refine AW.tt h (fun hb16 h => ?_) fun hb16 h => ?_
  ·refine AW.sk ?_
   exact ja [] h
  refine AW.rp ?_
  exact ja [] h
 refine AW.tk h (fun hb17 h => ?_) fun hb17 h => ?_
 ·refine AW.ro ?_
  refine AW.ret ?_
  cases h; refine nz ?_; exact .same _
 refine AW.kr [] [] ?_
 refine AW.ret ?_
 cases h; refine nz ?_; exact .same _
/-! ### isochrone/isochroneref08.natural -/
def r08_natural (K : Nat) (p0 : RatA) : Option Bool := ((
  ((
   if p0.neg then
    some true
   else
    if ((p0.den.length : Int) != (1 : Int)) then
     some true
    else
     (idx p0.den (0 : Int)).bind fun x7 =>
     if (x7 != (1 : Int)) then
      some true
     else
      some (decide ((20 : Int) < (p0.num.length : Int)))) : Option Bool).bind (fun v3_0 =>
  if v3_0 then
   outM (
    some false)
  else
   some (.go ()))) : Option (Out Unit _)).bind (Out.fin fun _ =>
 if ((p0.num.length : Int) == (0 : Int)) then
  some true
 else
  (idx p0.num (IntKind.wrap .i64 ((p0.num.length : Int) - (1 : Int)))).bind fun x12 =>
  some (x12 != (0 : Int)))
set_option maxHeartbeats 4000000 in
theorem r08_natural_ok {K : Nat} {p0 : RatA} {r : Bool} (h : r08_natural K p0 = some r) : Cn Tryz.prog 55 [aggV p0.enc] (.d (.val (.bool r))) := by
 refine Cn.oz Tryz.func55 Tryz.call55 Tryz.ntmps55 Tryz.results55 fun hfit => ?_
 unfold r08_natural at h
 refine AW.kr [] [0] ?_
 refine AW.ks [0] [1] ?_
 refine AW.jo h (fun _ => [(1, .ptr 0 3 0 0)]) (fun _ => [vE p0.enc]) (fun oJ2 h hJ2 => ?_) fun ⟨⟩ h => ?_
 ·refine AW.jn h (fun v3_0 => [(1, .ptr 0 3 0 0), (23, vB v3_0)]) (fun v3_0 => [vE p0.enc]) (fun oJ4 h => ?_) fun v3_0 h => ?_
  ·refine AW.rp ?_
   refine sK h (fun hb5 h => ?_) fun hb5 h => ?_
   ·exact ja [0] h
   refine sK h (fun hb6 h => ?_) fun hb6 h => ?_
   ·exact ja [0] h
   refine bx h fun x7 h0 h1 h => ?_
   refine sK h (fun hb9 h => ?_) fun hb9 h => ?_
   ·exact ja [0] h
   exact ja [0] h
  refine AW.tk h (fun hb10 h => ?_) fun hb10 h => ?_
  ·refine AW.ro ?_
   refine AW.ret ?_
   have h := up h hJ2
   cases h; refine nz ?_; exact .same _
  exact jo [0] h
 refine AW.ro ?_
 refine sK h (fun hb11 h => ?_) fun hb11 h => ?_
 ·refine AW.ret ?_
  cases h; refine nz ?_; exact .same _
 refine bx h fun x12 h0 h1 h => ?_
 refine AW.ret ?_
 cases h; refine nz ?_; exact .same _
/-! ### isochrone/isochroneref08.primed -/
def r08_primed_body (K : Nat) (self100 : NodeA → Option Bool) (p0 : NodeA) : Option Bool := ((
  ((
   if (p0.op == (3 : Int)) then
    some true
   else
    if (p0.op == (12 : Int)) then
     some true
    else
     some (p0.op == (39 : Int))) : Option Bool).bind (fun v3_0 =>
  if v3_0 then
   outM (
    some true)
  else
   some (.go ()))) : Option (Out Unit _)).bind (Out.fin fun _ =>
 ((iter (S := Int) (R := Out Unit _) K (fun again i8_0 =>
  if (decide (i8_0 < (p0.kids.length : Int))) then
   (idx p0.kids i8_0).bind fun x13 =>
   (self100 (x13)).bind fun r15 =>
   if r15 then
    outM (
     some true)
   else
    again (IntKind.wrap .i64 (i8_0 + (1 : Int)))
  else
   some (.go ())) (0 : Int)) : Option (Out Unit _)).bind (Out.fin fun _ =>
 some false))
set_option maxHeartbeats 4000000 in
theorem r08_primed_step (K : Nat) (self100 : NodeA → Option Bool) (hself100 : ∀ (q : NodeA) (r : Bool), self100 q = some r → Cn Tryz.prog 100 [aggV q.enc] (.d (.val (.bool r)))) (p0 : NodeA) (r : Bool) (h : r08_primed_body K self100 p0 = some r) : Cn Tryz.prog 100 [aggV p0.enc] (.d (.val (.bool r))) := by
 refine Cn.oz Tryz.func100 Tryz.call100 Tryz.ntmps100 Tryz.results100 fun hfit => ?_
 unfold r08_primed_body at h
 refine AW.kr [] [0] ?_
 refine AW.ks [0] [1] ?_
 refine AW.jo h (fun _ => [(1, .ptr 0 6 0 0)]) (fun _ => [vE p0.enc]) (fun oJ2 h hJ2 => ?_) fun ⟨⟩ h => ?_
 ·refine AW.jn h (fun v3_0 => [(1, .ptr 0 6 0 0), (16, vB v3_0)]) (fun v3_0 => [vE p0.enc]) (fun oJ4 h => ?_) fun v3_0 h => ?_
  ·refine AW.rp ?_
   refine sK h (fun hb5 h => ?_) fun hb5 h => ?_
   ·exact ja [0] h
   refine sK h (fun hb6 h => ?_) fun hb6 h => ?_
   ·exact ja [0] h
   exact ja [0] h
  refine AW.tk h (fun hb7 h => ?_) fun hb7 h => ?_
  ·refine AW.ro ?_
   refine AW.ret ?_
   have h := up h hJ2
   cases h; refine nz ?_; exact .same _
  exact jo [0] h
 refine AW.one ?_
 refine AW.ro ?_
 refine AW.ks [0] [1, 3] ?_
 refine AW.lp h (fun _ => []) (fun _ => []) (fun i8_0 => [(1, .ptr 0 6 0 0), (3, vI i8_0)]) (fun i8_0 => [vE p0.enc]) [0] (fun oJ11 hJ11 again i8_0 h => ?_) fun ⟨⟩ h => ?_
 ·refine AW.one ?_
  refine AW.ro ?_
  refine AW.ks [0] [1, 3, 21] ?_
  refine AW.tt h (fun hb12 h => ?_) fun hb12 h => ?_
  ·refine AW.sk ?_
   refine AW.ks [0] [1, 3] ?_
   refine AW.one ?_
   refine AW.block ?_
   refine AW.ro ?_
   refine bx h fun x13 h0 h1 h => ?_
   refine cm h (hself100 _ _) fun r15 hx16 h => ?_
   refine AW.ks [0] [1, 3, 29] ?_
   refine AW.tk h (fun hb17 h => ?_) fun hb17 h => ?_
   ·refine AW.ro ?_
    refine AW.ret ?_
    have h := up h hJ11
    cases h; refine nz ?_; exact .same _
   refine AW.ks [0] [1, 3] ?_
   refine AW.rp ?_
   exact na [0] h
  refine AW.ex ?_
  exact jo [] h
 refine AW.kr [] [] ?_
 refine AW.ret ?_
 cases h; refine nz ?_; exact .same _
def r08_primed (K : Nat) (p0 : NodeA) : Option Bool := iter K (fun self q => r08_primed_body K self q) p0
theorem key_r08_primed {K : Nat} (k : Nat) : (∀ (q : NodeA) (r : Bool), iter k (fun self q => r08_primed_body K self q) q = some r → Cn Tryz.prog 100 [aggV q.enc] (.d (.val (.bool r)))) := by
 induction k with
 | zero => exact fun q r h => by cases h
 | succ k ih => exact fun q r h => r08_primed_step K _ ih q r h
theorem r08_primed_ok {K : Nat} {p0 : NodeA} {r : Bool} (h : r08_primed K p0 = some r) : Cn Tryz.prog 100 [aggV p0.enc] (.d (.val (.bool r))) := (key_r08_primed K) p0 r h
/-! ### isochrone/isochroneref08.well -/
def r08_well_body (K : Nat) (self34 : (NodeA × Int × Bool × Bool) → Option Bool) (self56 : (NodeA × Bool × Bool) → Option Bool) (p0 : NodeA) (p1 : Int) (p2 : Bool) (p3 : Bool) : Option Bool := ((
  ((
   (r08_Sort K p0.op).bind fun r5 =>
   if (r5 != p1) then
    some true
   else
    (r08_named K p0.op).bind fun r8 =>
    (r08_Name K p0.name).bind fun r10 =>
    if (!(r8 == r10)) then
     some true
    else
     (r08_named K p0.op).bind fun r13 =>
     if (!r13) then
      some (!(p0.name.toList == (⟨#[]⟩ : ByteArray).toList))
     else
      some false) : Option Bool).bind (fun v3_0 =>
  if v3_0 then
   outM (
    some false)
  else
   some (.go ()))) : Option (Out Unit _)).bind (Out.fin fun _ =>
 ((
  if (p0.op == (1 : Int)) then
   (r08_natural K p0.num).bind fun r20 =>
   if (!r20) then
    outM (
     some false)
   else
    some (.go ())
  else
   ((
    if p0.num.neg then
     some true
    else
     if (decide ((0 : Int) < (p0.num.num.length : Int))) then
      some true
     else
      some (decide ((0 : Int) < (p0.num.den.length : Int)))) : Option Bool).bind (fun v23_0 =>
   if v23_0 then
    outM (
     some false)
   else
    some (.go ()))) : Option (Out Unit _)).bind (Out.fin fun _ =>
 ((
  ((
   if p2 then
    if (p0.op == (12 : Int)) then
     some true
    else
     some (p0.op == (3 : Int))
   else
    if p3 then
     some (p0.op == (3 : Int))
    else
     some false) : Option Bool).bind (fun v30_0 =>
  if v30_0 then
   outM (
    some false)
  else
   some (.go ()))) : Option (Out Unit _)).bind (Out.fin fun _ =>
 if (p0.op == (54 : Int)) then
  (self56 (p0, p2, p3)).bind fun r37 =>
  some r37
 else
  (r08_kids K p0.op).bind fun r39 =>
  ((
   ((
    if (p0.op == (10 : Int)) then
     some true
    else
     some (p0.op == (37 : Int))) : Option Bool).bind (fun v43_0 =>
   if v43_0 then
    if ((p0.kids.length : Int) == (1 : Int)) then
     some (⟨#[49]⟩ : ByteArray)
    else
     some r39
   else
    some r39)) : Option ByteArray).bind (fun v41_0 =>
  if ((v41_0.size : Int) != (p0.kids.length : Int)) then
   some false
  else
   ((iter (S := Int) (R := Out Unit _) K (fun again i49_0 =>
    if (decide (i49_0 < (v41_0.size : Int))) then
     ((
      ((
       (idx p0.kids i49_0).bind fun x58 =>
       (strAt v41_0 i49_0).bind fun c60 =>
       if p2 then
        if p3 then
         (self34 (x58, IntKind.wrap .i64 (IntKind.wrap .u8 ((c60.toNat : Int) - (48 : Int))), true, true)).bind fun r64 =>
         some (!r64)
        else
         (self34 (x58, IntKind.wrap .i64 (IntKind.wrap .u8 ((c60.toNat : Int) - (48 : Int))), true, (p0.op == (39 : Int)))).bind fun r66 =>
         some (!r66)
       else
        if p3 then
         (self34 (x58, IntKind.wrap .i64 (IntKind.wrap .u8 ((c60.toNat : Int) - (48 : Int))), (p0.op == (12 : Int)), true)).bind fun r69 =>
         some (!r69)
        else
         (self34 (x58, IntKind.wrap .i64 (IntKind.wrap .u8 ((c60.toNat : Int) - (48 : Int))), (p0.op == (12 : Int)), (p0.op == (39 : Int)))).bind fun r71 =>
         some (!r71)) : Option Bool).bind (fun v56_0 =>
      if v56_0 then
       outM (
        outM (
         some false))
      else
       some (.go ()))) : Option (Out Unit _)).bind (Out.fin fun _ =>
     again (IntKind.wrap .i64 (i49_0 + (1 : Int))))
    else
     some (.go ())) (0 : Int)) : Option (Out Unit _)).bind (Out.fin fun _ =>
   if (p0.op == (8 : Int)) then
    (idx p0.kids (1 : Int)).bind fun x75 =>
    if (x75.op == (1 : Int)) then
     some (decide ((0 : Int) < (x75.num.num.length : Int)))
    else
     some false
   else
    if (p0.op == (9 : Int)) then
     (idx p0.kids (1 : Int)).bind fun x79 =>
     if (x79.op == (1 : Int)) then
      (r08_Natural K x79.num (20 : Int)).bind fun r82 =>
      some (decide ((0 : Int) ≤ r82))
     else
      some false
    else
     if (p0.op == (39 : Int)) then
      (idx p0.kids (0 : Int)).bind fun x85 =>
      (r08_differential K x85).bind fun r87 =>
      some r87
     else
      some true)))))
set_option maxHeartbeats 4000000 in
theorem r08_well_step (K : Nat) (self34 : (NodeA × Int × Bool × Bool) → Option Bool) (self56 : (NodeA × Bool × Bool) → Option Bool) (hself34 : ∀ (q : NodeA × Int × Bool × Bool) (r : Bool), self34 q = some r → Cn Tryz.prog 34 [aggV q.1.enc, .d (.val (.int .i64 q.2.1)), .d (.val (.bool q.2.2.1)), .d (.val (.bool q.2.2.2))] (.d (.val (.bool r)))) (hself56 : ∀ (q : NodeA × Bool × Bool) (r : Bool), self56 q = some r → Cn Tryz.prog 56 [aggV q.1.enc, .d (.val (.bool q.2.1)), .d (.val (.bool q.2.2))] (.d (.val (.bool r)))) (p0 : NodeA) (p1 : Int) (p2 : Bool) (p3 : Bool) (r : Bool) (h : r08_well_body K self34 self56 p0 p1 p2 p3 = some r) : Cn Tryz.prog 34 [aggV p0.enc, .d (.val (.int .i64 p1)), .d (.val (.bool p2)), .d (.val (.bool p3))] (.d (.val (.bool r))) := by
 have q0 := fun k z => cv_int (k' := k) (z := z) Tryz.underlying5 Tryz.underlying3
 refine Cn.oz Tryz.func34 Tryz.call34 Tryz.ntmps34 Tryz.results34 fun hfit => ?_
 unfold r08_well_body at h
 refine AW.kr [] [0, 1, 2, 3] ?_
 refine AW.ks [0] [1, 2, 3, 4] ?_
 refine AW.jo h (fun _ => [(2, vB p2), (3, vB p3), (4, .ptr 0 6 0 0)]) (fun _ => [vE p0.enc]) (fun oJ2 h hJ2 => ?_) fun ⟨⟩ h => ?_
 ·refine AW.jn h (fun v3_0 => [(2, vB p2), (3, vB p3), (4, .ptr 0 6 0 0), (35, vB v3_0)]) (fun v3_0 => [vE p0.enc]) (fun oJ4 h => ?_) fun v3_0 h => ?_
  ·refine AW.rp ?_
   refine pm h r08_Sort_ok fun r5 hx6 h => ?_
   refine sK h (fun hb7 h => ?_) fun hb7 h => ?_
   ·exact ja [0] h
   refine pm h r08_named_ok fun r8 hx9 h => ?_
   refine pm h r08_Name_ok fun r10 hx11 h => ?_
   refine sK h (fun hb12 h => ?_) fun hb12 h => ?_
   ·exact ja [0] h
   refine pm h r08_named_ok fun r13 hx14 h => ?_
   refine sK h (fun hb15 h => ?_) fun hb15 h => ?_
   ·exact ja [0] h
   exact ja [0] h
  refine AW.tk h (fun hb16 h => ?_) fun hb16 h => ?_
  ·refine AW.ro ?_
   refine AW.ret ?_
   have h := up h hJ2
   cases h; refine nz ?_; exact .same _
  exact jo [0] h
 refine AW.jo h (fun _ => [(2, vB p2), (3, vB p3), (4, .ptr 0 6 0 0)]) (fun _ => [vE p0.enc]) (fun oJ18 h hJ18 => ?_) fun ⟨⟩ h => ?_
 ·refine AW.ro ?_
  refine AW.ks [0] [2, 3, 4, 38] ?_
  refine AW.tt h (fun hb19 h => ?_) fun hb19 h => ?_
  ·refine AW.ro ?_
   refine cm h r08_natural_ok fun r20 hx21 h => ?_
   refine AW.ks [0] [2, 3, 4, 42] ?_
   refine AW.tk h (fun hb22 h => ?_) fun hb22 h => ?_
   ·refine AW.ro ?_
    refine AW.ret ?_
    have h := up h hJ18
    cases h; refine nz ?_; exact .same _
   exact jo [0] h
  refine AW.jn h (fun v23_0 => [(2, vB p2), (3, vB p3), (4, .ptr 0 6 0 0), (59, vB v23_0)]) (fun v23_0 => [vE p0.enc]) (fun oJ24 h => ?_) fun v23_0 h => ?_
  ·refine AW.rp ?_
   refine sK h (fun hb25 h => ?_) fun hb25 h => ?_
   ·exact ja [0] h
   refine sK h (fun hb26 h => ?_) fun hb26 h => ?_
   ·exact ja [0] h
   exact ja [0] h
  refine AW.tk h (fun hb27 h => ?_) fun hb27 h => ?_
  ·refine AW.ro ?_
   refine AW.ret ?_
   have h := up h hJ18
   cases h; refine nz ?_; exact .same _
  exact jo [0] h
 refine AW.jo h (fun _ => [(2, vB p2), (3, vB p3), (4, .ptr 0 6 0 0)]) (fun _ => [vE p0.enc]) (fun oJ29 h hJ29 => ?_) fun ⟨⟩ h => ?_
 ·refine AW.jn h (fun v30_0 => [(2, vB p2), (3, vB p3), (4, .ptr 0 6 0 0), (76, vB v30_0)]) (fun v30_0 => [vE p0.enc]) (fun oJ31 h => ?_) fun v30_0 h => ?_
  ·refine AW.rp ?_
   refine sK h (fun hb32 h => ?_) fun hb32 h => ?_
   ·refine sK h (fun hb33 h => ?_) fun hb33 h => ?_
    ·exact ja [0] h
    exact ja [0] h
   refine sK h (fun hb34 h => ?_) fun hb34 h => ?_
   ·exact ja [0] h
   exact ja [0] h
  refine AW.tk h (fun hb35 h => ?_) fun hb35 h => ?_
  ·refine AW.ro ?_
   refine AW.ret ?_
   have h := up h hJ29
   cases h; refine nz ?_; exact .same _
  exact jo [0] h
 refine AW.one ?_
 refine AW.ro ?_
 refine AW.ks [0] [2, 3, 4, 79] ?_
 refine AW.tk h (fun hb36 h => ?_) fun hb36 h => ?_
 ·refine AW.ro ?_
  refine cm h (hself56 _ _) fun r37 hx38 h => ?_
  refine AW.ret ?_
  cases h; refine nz ?_; exact .same _
 refine AW.kr [0] [2, 3, 4] ?_
 refine cm h r08_kids_ok fun r39 hx40 h => ?_
 refine AW.ks [0] [2, 3, 4, 9] ?_
 refine AW.jn h (fun v41_0 => [(2, vB p2), (3, vB p3), (4, .ptr 0 6 0 0), (9, vS v41_0)]) (fun v41_0 => [vE p0.enc]) (fun oJ42 h => ?_) fun v41_0 h => ?_
 ·refine AW.jn h (fun v43_0 => [(2, vB p2), (3, vB p3), (4, .ptr 0 6 0 0), (9, vS r39), (94, vB v43_0)]) (fun v43_0 => [vE p0.enc]) (fun oJ44 h => ?_) fun v43_0 h => ?_
  ·refine AW.rp ?_
   refine sK h (fun hb45 h => ?_) fun hb45 h => ?_
   ·exact ja [0] h
   exact ja [0] h
  refine AW.tk h (fun hb46 h => ?_) fun hb46 h => ?_
  ·refine AW.ro ?_
   refine AW.ks [0] [2, 3, 4, 9, 98] ?_
   refine AW.tk h (fun hb47 h => ?_) fun hb47 h => ?_
   ·refine AW.rp ?_
    exact ja [0] h
   exact ja [0] h
  exact ja [0] h
 refine AW.one ?_
 refine AW.ro ?_
 refine AW.ks [0] [2, 3, 4, 9, 104] ?_
 refine AW.tk h (fun hb48 h => ?_) fun hb48 h => ?_
 ·refine AW.ro ?_
  refine AW.ret ?_
  cases h; refine nz ?_; exact .same _
 refine AW.ks [0] [2, 3, 4, 9] ?_
 refine AW.one ?_
 refine AW.ro ?_
 refine AW.ks [0] [2, 3, 4, 9, 10] ?_
 refine AW.lp h (fun _ => [(4, .ptr 0 6 0 0)]) (fun _ => [vE p0.enc]) (fun i49_0 => [(2, vB p2), (3, vB p3), (4, .ptr 0 6 0 0), (9, vS v41_0), (10, vI i49_0)]) (fun i49_0 => [vE p0.enc]) [0] (fun oJ52 hJ52 again i49_0 h => ?_) fun ⟨⟩ h => ?_
 ·refine AW.one ?_
  refine AW.ro ?_
  refine AW.ks [0] [2, 3, 4, 9, 10, 108] ?_
  refine AW.tt h (fun hb53 h => ?_) fun hb53 h => ?_
  ·refine AW.sk ?_
   refine AW.ks [0] [2, 3, 4, 9, 10] ?_
   refine AW.jo h (fun _ => [(2, vB p2), (3, vB p3), (4, .ptr 0 6 0 0), (9, vS v41_0), (10, vI i49_0)]) (fun _ => [vE p0.enc]) (fun oJ55 h hJ55 => ?_) fun ⟨⟩ h => ?_
   ·refine AW.block ?_
    refine AW.jn h (fun v56_0 => [(2, vB p2), (3, vB p3), (4, .ptr 0 6 0 0), (9, vS v41_0), (10, vI i49_0), (134, vB v56_0)]) (fun v56_0 => [vE p0.enc]) (fun oJ57 h => ?_) fun v56_0 h => ?_
    ·refine AW.rp ?_
     refine bx h fun x58 h0 h1 h => ?_
     refine bb h fun c60 hx61 h => ?_
     refine sK h (fun hb62 h => ?_) fun hb62 h => ?_
     ·refine sK h (fun hb63 h => ?_) fun hb63 h => ?_
      ·refine pm h (hself34 _ _) fun r64 hx65 h => ?_
       exact ja [0] h
      refine pm h (hself34 _ _) fun r66 hx67 h => ?_
      exact ja [0] h
     refine sK h (fun hb68 h => ?_) fun hb68 h => ?_
     ·refine pm h (hself34 _ _) fun r69 hx70 h => ?_
      exact ja [0] h
     refine pm h (hself34 _ _) fun r71 hx72 h => ?_
     exact ja [0] h
    refine AW.tk h (fun hb73 h => ?_) fun hb73 h => ?_
    ·refine AW.ro ?_
     refine AW.ret ?_
     have h := up h hJ55
     have h := up h hJ52
     cases h; refine nz ?_; exact .same _
    exact jo [0] h
   refine AW.rp ?_
   exact na [0] h
  refine AW.ex ?_
  exact jo [0] h
 refine AW.ks [0] [4] ?_
 refine AW.one ?_
 refine AW.ro ?_
 refine AW.ks [0] [4, 136] ?_
 refine AW.block ?_
 refine AW.ro ?_
 refine AW.ks [0] [4, 136, 137] ?_
 refine AW.tt h (fun hb74 h => ?_) fun hb74 h => ?_
 ·refine AW.ro ?_
  refine bx h fun x75 h0 h1 h => ?_
  refine sK h (fun hb77 h => ?_) fun hb77 h => ?_
  ·refine AW.ret ?_
   cases h; refine nz ?_; exact .same _
  refine AW.ret ?_
  cases h; refine nz ?_; exact .same _
 refine AW.ro ?_
 refine AW.ks [0] [4, 136, 155] ?_
 refine AW.tt h (fun hb78 h => ?_) fun hb78 h => ?_
 ·refine AW.ro ?_
  refine bx h fun x79 h0 h1 h => ?_
  refine sK h (fun hb81 h => ?_) fun hb81 h => ?_
  ·refine cm h r08_Natural_ok fun r82 hx83 h => ?_
   refine AW.ret ?_
   cases h; refine nz ?_; exact .same _
  refine AW.ret ?_
  cases h; refine nz ?_; exact .same _
 refine AW.ro ?_
 refine AW.ks [0] [4, 172] ?_
 refine AW.tk h (fun hb84 h => ?_) fun hb84 h => ?_
 ·refine AW.ro ?_
  refine bx h fun x85 h0 h1 h => ?_
  refine cm h r08_differential_ok fun r87 hx88 h => ?_
  refine AW.ret ?_
  cases h; refine nz ?_; exact .same _
 refine AW.kr [] [] ?_
 refine AW.ret ?_
 cases h; refine nz ?_; exact .same _
/-! ### isochrone/isochroneref08.flow -/
def r08_flow_body (K : Nat) (self34 : (NodeA × Int × Bool × Bool) → Option Bool) (self56 : (NodeA × Bool × Bool) → Option Bool) (p0 : NodeA) (p1 : Bool) (p2 : Bool) : Option Bool := ((
  ((
   if (decide ((p0.kids.length : Int) < (2 : Int))) then
    some true
   else
    (r08_primed K p0).bind fun r6 =>
    if r6 then
     some true
    else
     (idx p0.kids (IntKind.wrap .i64 ((p0.kids.length : Int) - (1 : Int)))).bind fun x9 =>
     (self34 (x9, (2 : Int), p1, p2)).bind fun r11 =>
     some (!r11)) : Option Bool).bind (fun v3_0 =>
  if v3_0 then
   outM (
    some false)
  else
   some (.go ()))) : Option (Out Unit _)).bind (Out.fin fun _ =>
 ((iter (S := Int) (R := Out Unit _) K (fun again i14_0 =>
  if (decide (i14_0 < (IntKind.wrap .i64 ((p0.kids.length : Int) - (1 : Int))))) then
   ((
    (idx p0.kids i14_0).bind fun x21 =>
    ((
     ((
      if (x21.op == (56 : Int)) then
       if (decide (i14_0 < (IntKind.wrap .i64 ((p0.kids.length : Int) - (2 : Int))))) then
        some true
       else
        if (x21.op != (56 : Int)) then
         if (x21.op != (55 : Int)) then
          some true
         else
          (self34 (x21, (4 : Int), p1, p2)).bind fun r31 =>
          some (!r31)
        else
         (self34 (x21, (4 : Int), p1, p2)).bind fun r33 =>
         some (!r33)
      else
       if (x21.op != (56 : Int)) then
        if (x21.op != (55 : Int)) then
         some true
        else
         (self34 (x21, (4 : Int), p1, p2)).bind fun r37 =>
         some (!r37)
       else
        (self34 (x21, (4 : Int), p1, p2)).bind fun r39 =>
        some (!r39)) : Option Bool).bind (fun v25_0 =>
     if v25_0 then
      outM (
       outM (
        outM (
         some false)))
     else
      some (.go ()))) : Option (Out Unit _)).bind (Out.fin fun _ =>
    ((iter (S := Int) (R := Out Unit _) K (fun again i42_0 =>
     if (decide (i42_0 < i14_0)) then
      ((
       ((
        if (x21.op == (55 : Int)) then
         (idx p0.kids i42_0).bind fun x52 =>
         some (x52.name.toList == x21.name.toList)
        else
         some false) : Option Bool).bind (fun v49_0 =>
       if v49_0 then
        outM (
         outM (
          outM (
           outM (
            some false))))
       else
        some (.go ()))) : Option (Out Unit _)).bind (Out.fin fun _ =>
      again (IntKind.wrap .i64 (i42_0 + (1 : Int))))
     else
      some (.go ())) (0 : Int)) : Option (Out Unit _)).bind (Out.fin fun _ =>
    some (.go ())))) : Option (Out Unit _)).bind (Out.fin fun _ =>
   again (IntKind.wrap .i64 (i14_0 + (1 : Int))))
  else
   some (.go ())) (0 : Int)) : Option (Out Unit _)).bind (Out.fin fun _ =>
 some true))
set_option maxHeartbeats 4000000 in
theorem r08_flow_step (K : Nat) (self34 : (NodeA × Int × Bool × Bool) → Option Bool) (self56 : (NodeA × Bool × Bool) → Option Bool) (hself34 : ∀ (q : NodeA × Int × Bool × Bool) (r : Bool), self34 q = some r → Cn Tryz.prog 34 [aggV q.1.enc, .d (.val (.int .i64 q.2.1)), .d (.val (.bool q.2.2.1)), .d (.val (.bool q.2.2.2))] (.d (.val (.bool r)))) (hself56 : ∀ (q : NodeA × Bool × Bool) (r : Bool), self56 q = some r → Cn Tryz.prog 56 [aggV q.1.enc, .d (.val (.bool q.2.1)), .d (.val (.bool q.2.2))] (.d (.val (.bool r)))) (p0 : NodeA) (p1 : Bool) (p2 : Bool) (r : Bool) (h : r08_flow_body K self34 self56 p0 p1 p2 = some r) : Cn Tryz.prog 56 [aggV p0.enc, .d (.val (.bool p1)), .d (.val (.bool p2))] (.d (.val (.bool r))) := by
 refine Cn.oz Tryz.func56 Tryz.call56 Tryz.ntmps56 Tryz.results56 fun hfit => ?_
 unfold r08_flow_body at h
 refine AW.kr [] [0, 1, 2] ?_
 refine AW.kr [0] [1, 2, 3] ?_
 refine AW.ks [0] [1, 2, 3, 7] ?_
 refine AW.jo h (fun _ => [(1, vB p1), (2, vB p2), (3, .ptr 0 6 0 0), (7, vI (p0.kids.length : Int))]) (fun _ => [vE p0.enc]) (fun oJ2 h hJ2 => ?_) fun ⟨⟩ h => ?_
 ·refine AW.jn h (fun v3_0 => [(1, vB p1), (2, vB p2), (3, .ptr 0 6 0 0), (7, vI (p0.kids.length : Int)), (31, vB v3_0)]) (fun v3_0 => [vE p0.enc]) (fun oJ4 h => ?_) fun v3_0 h => ?_
  ·refine AW.rp ?_
   refine sK h (fun hb5 h => ?_) fun hb5 h => ?_
   ·exact ja [0] h
   refine cm h r08_primed_ok fun r6 hx7 h => ?_
   refine sK h (fun hb8 h => ?_) fun hb8 h => ?_
   ·exact ja [0] h
   refine bx h fun x9 h0 h1 h => ?_
   refine cm h (hself34 _ _) fun r11 hx12 h => ?_
   exact ja [0] h
  refine AW.tk h (fun hb13 h => ?_) fun hb13 h => ?_
  ·refine AW.ro ?_
   refine AW.ret ?_
   have h := up h hJ2
   cases h; refine nz ?_; exact .same _
  exact jo [0] h
 refine AW.one ?_
 refine AW.ro ?_
 refine AW.ks [0] [1, 2, 3, 7, 8] ?_
 refine AW.lp h (fun _ => []) (fun _ => []) (fun i14_0 => [(1, vB p1), (2, vB p2), (3, .ptr 0 6 0 0), (7, vI (p0.kids.length : Int)), (8, vI i14_0)]) (fun i14_0 => [vE p0.enc]) [0] (fun oJ17 hJ17 again i14_0 h => ?_) fun ⟨⟩ h => ?_
 ·refine AW.one ?_
  refine AW.ro ?_
  refine AW.ks [0] [1, 2, 3, 7, 8, 35] ?_
  refine AW.tt h (fun hb18 h => ?_) fun hb18 h => ?_
  ·refine AW.sk ?_
   refine AW.ks [0] [1, 2, 3, 7, 8] ?_
   refine AW.jo h (fun _ => [(1, vB p1), (2, vB p2), (3, .ptr 0 6 0 0), (7, vI (p0.kids.length : Int)), (8, vI i14_0)]) (fun _ => [vE p0.enc]) (fun oJ20 h hJ20 => ?_) fun ⟨⟩ h => ?_
   ·refine AW.block ?_
    refine AW.ro ?_
    refine bx h fun x21 h0 h1 h => ?_
    refine AW.ks [0, 6] [1, 2, 3, 7, 8, 9] ?_
    refine AW.jo h (fun _ => [(1, vB p1), (2, vB p2), (3, .ptr 0 6 0 0), (7, vI (p0.kids.length : Int)), (8, vI i14_0), (9, .ptr 1 6 0 0)]) (fun _ => [vE p0.enc, vE x21.enc]) (fun oJ24 h hJ24 => ?_) fun ⟨⟩ h => ?_
    ·refine AW.jn h (fun v25_0 => [(1, vB p1), (2, vB p2), (3, .ptr 0 6 0 0), (7, vI (p0.kids.length : Int)), (8, vI i14_0), (9, .ptr 1 6 0 0), (68, vB v25_0)]) (fun v25_0 => [vE p0.enc, vE x21.enc]) (fun oJ26 h => ?_) fun v25_0 h => ?_
     ·refine AW.rp ?_
      refine sK h (fun hb27 h => ?_) fun hb27 h => ?_
      ·refine sK h (fun hb28 h => ?_) fun hb28 h => ?_
       ·exact ja [0, 1] h
       refine sK h (fun hb29 h => ?_) fun hb29 h => ?_
       ·refine sK h (fun hb30 h => ?_) fun hb30 h => ?_
        ·exact ja [0, 1] h
        refine cm h (hself34 _ _) fun r31 hx32 h => ?_
        exact ja [0, 1] h
       refine cm h (hself34 _ _) fun r33 hx34 h => ?_
       exact ja [0, 1] h
      refine sK h (fun hb35 h => ?_) fun hb35 h => ?_
      ·refine sK h (fun hb36 h => ?_) fun hb36 h => ?_
       ·exact ja [0, 1] h
       refine cm h (hself34 _ _) fun r37 hx38 h => ?_
       exact ja [0, 1] h
      refine cm h (hself34 _ _) fun r39 hx40 h => ?_
      exact ja [0, 1] h
     refine AW.tk h (fun hb41 h => ?_) fun hb41 h => ?_
     ·refine AW.ro ?_
      refine AW.ret ?_
      have h := up h hJ24
      have h := up h hJ20
      have h := up h hJ17
      cases h; refine nz ?_; exact .same _
     exact jo [0, 1] h
    refine AW.ro ?_
    refine AW.ks [0, 1] [1, 2, 3, 7, 8, 9, 10] ?_
    refine AW.lp h (fun _ => [(1, vB p1), (2, vB p2), (3, .ptr 0 6 0 0), (7, vI (p0.kids.length : Int)), (8, vI i14_0)]) (fun _ => [vE p0.enc]) (fun i42_0 => [(1, vB p1), (2, vB p2), (3, .ptr 0 6 0 0), (7, vI (p0.kids.length : Int)), (8, vI i14_0), (9, .ptr 1 6 0 0), (10, vI i42_0)]) (fun i42_0 => [vE p0.enc, vE x21.enc]) [0, 1] (fun oJ45 hJ45 again i42_0 h => ?_) fun ⟨⟩ h => ?_
    ·refine AW.one ?_
     refine AW.ro ?_
     refine AW.ks [0, 1] [1, 2, 3, 7, 8, 9, 10, 71] ?_
     refine AW.tt h (fun hb46 h => ?_) fun hb46 h => ?_
     ·refine AW.sk ?_
      refine AW.ks [0, 1] [1, 2, 3, 7, 8, 9, 10] ?_
      refine AW.jo h (fun _ => [(1, vB p1), (2, vB p2), (3, .ptr 0 6 0 0), (7, vI (p0.kids.length : Int)), (8, vI i14_0), (9, .ptr 1 6 0 0), (10, vI i42_0)]) (fun _ => [vE p0.enc, vE x21.enc]) (fun oJ48 h hJ48 => ?_) fun ⟨⟩ h => ?_
      ·refine AW.block ?_
       refine AW.jn h (fun v49_0 => [(1, vB p1), (2, vB p2), (3, .ptr 0 6 0 0), (7, vI (p0.kids.length : Int)), (8, vI i14_0), (9, .ptr 1 6 0 0), (10, vI i42_0), (87, vB v49_0)]) (fun v49_0 => [vE p0.enc, vE x21.enc]) (fun oJ50 h => ?_) fun v49_0 h => ?_
       ·refine AW.rp ?_
        refine sK h (fun hb51 h => ?_) fun hb51 h => ?_
        ·refine bx h fun x52 h0 h1 h => ?_
         exact ja [0, 1] h
        exact ja [0, 1] h
       refine AW.tk h (fun hb54 h => ?_) fun hb54 h => ?_
       ·refine AW.ro ?_
        refine AW.ret ?_
        have h := up h hJ48
        have h := up h hJ45
        have h := up h hJ20
        have h := up h hJ17
        cases h; refine nz ?_; exact .same _
       exact jo [0, 1] h
      refine AW.rp ?_
      exact na [0, 1] h
     refine AW.ex ?_
     exact jo [0] h
    exact jo [0] h
   refine AW.rp ?_
   exact na [0] h
  refine AW.ex ?_
  exact jo [] h
 refine AW.kr [] [] ?_
 refine AW.ret ?_
 cases h; refine nz ?_; exact .same _
def grp_r08_well (K : Nat) : Nat → ((NodeA × Int × Bool × Bool) → Option Bool) × ((NodeA × Bool × Bool) → Option Bool)
 | 0 => (fun _ => none, fun _ => none)
 | k + 1 => (fun q => r08_well_body K (grp_r08_well K k).1 (grp_r08_well K k).2 q.1 q.2.1 q.2.2.1 q.2.2.2, fun q => r08_flow_body K (grp_r08_well K k).1 (grp_r08_well K k).2 q.1 q.2.1 q.2.2)
def r08_well (K : Nat) (p0 : NodeA) (p1 : Int) (p2 : Bool) (p3 : Bool) : Option Bool := (grp_r08_well K K).1 (p0, p1, p2, p3)
theorem key_r08_well {K : Nat} (k : Nat) : (∀ (q : NodeA × Int × Bool × Bool) (r : Bool), (grp_r08_well K k).1 q = some r → Cn Tryz.prog 34 [aggV q.1.enc, .d (.val (.int .i64 q.2.1)), .d (.val (.bool q.2.2.1)), .d (.val (.bool q.2.2.2))] (.d (.val (.bool r)))) ∧ (∀ (q : NodeA × Bool × Bool) (r : Bool), (grp_r08_well K k).2 q = some r → Cn Tryz.prog 56 [aggV q.1.enc, .d (.val (.bool q.2.1)), .d (.val (.bool q.2.2))] (.d (.val (.bool r)))) := by
 induction k with
 | zero => exact ⟨(fun q r h => nomatch (show (none : Option _) = some r from h)), (fun q r h => nomatch (show (none : Option _) = some r from h))⟩
 | succ k ih => exact ⟨fun q r h => r08_well_step K _ _ ih.1 ih.2 q.1 q.2.1 q.2.2.1 q.2.2.2 r h, fun q r h => r08_flow_step K _ _ ih.1 ih.2 q.1 q.2.1 q.2.2 r h⟩
theorem r08_well_ok {K : Nat} {p0 : NodeA} {p1 : Int} {p2 : Bool} {p3 : Bool} {r : Bool} (h : r08_well K p0 p1 p2 p3 = some r) : Cn Tryz.prog 34 [aggV p0.enc, .d (.val (.int .i64 p1)), .d (.val (.bool p2)), .d (.val (.bool p3))] (.d (.val (.bool r))) := (key_r08_well K).1 (p0, p1, p2, p3) r h
/-! ### isochrone/isochroneref08.Check -/
def r08_Check (K : Nat) (p0 : NodeA) (p1 : Int) : Option Int := ((
  if (decide (p1 < (1 : Int))) then
   some true
  else
   some (decide ((3 : Int) < p1))) : Option Bool).bind (fun v1_0 =>
 if v1_0 then
  some (1 : Int)
 else
  ((
   (r08_Size K p0).bind fun r7 =>
   if (decide ((4000 : Int) < r7)) then
    some true
   else
    (r08_Levels K p0).bind fun r10 =>
    some (decide ((60 : Int) < r10))) : Option Bool).bind (fun v5_0 =>
  if v5_0 then
   some (2 : Int)
  else
   (r08_Sort K p0.op).bind fun r13 =>
   if (r13 != p1) then
    some (80 : Int)
   else
    (r08_well K p0 p1 false false).bind fun r16 =>
    if (!r16) then
     some (3 : Int)
    else
     some (0 : Int)))
set_option maxHeartbeats 4000000 in
theorem r08_Check_ok {K : Nat} {p0 : NodeA} {p1 : Int} {r : Int} (h : r08_Check K p0 p1 = some r) : Cn Tryz.prog 22 [aggV p0.enc, .d (.val (.int .i64 p1))] (.d (.val (.int .i64 r))) := by
 refine Cn.oz Tryz.func22 Tryz.call22 Tryz.ntmps22 Tryz.results22 fun hfit => ?_
 unfold r08_Check at h
 refine AW.kr [] [0, 1] ?_
 refine AW.ks [0] [1, 2] ?_
 refine AW.one ?_
 refine AW.block ?_
 refine AW.jn h (fun v1_0 => [(1, vI p1), (2, .ptr 0 6 0 0), (5, vB v1_0)]) (fun v1_0 => [vE p0.enc]) (fun oJ2 h => ?_) fun v1_0 h => ?_
 ·refine AW.rp ?_
  refine sK h (fun hb3 h => ?_) fun hb3 h => ?_
  ·exact ja [0] h
  exact ja [0] h
 refine AW.tt h (fun hb4 h => ?_) fun hb4 h => ?_
 ·refine AW.ro ?_
  refine AW.ret ?_
  cases h; refine nz ?_; exact .same _
 refine AW.jn h (fun v5_0 => [(1, vI p1), (2, .ptr 0 6 0 0), (12, vB v5_0)]) (fun v5_0 => [vE p0.enc]) (fun oJ6 h => ?_) fun v5_0 h => ?_
 ·refine AW.rp ?_
  refine cm h r08_Size_ok fun r7 hx8 h => ?_
  refine sK h (fun hb9 h => ?_) fun hb9 h => ?_
  ·exact ja [0] h
  refine cm h r08_Levels_ok fun r10 hx11 h => ?_
  exact ja [0] h
 refine AW.tt h (fun hb12 h => ?_) fun hb12 h => ?_
 ·refine AW.ro ?_
  refine AW.ret ?_
  cases h; refine nz ?_; exact .same _
 refine AW.ro ?_
 refine cm h r08_Sort_ok fun r13 hx14 h => ?_
 refine AW.ks [0] [1, 2, 21] ?_
 refine AW.tt h (fun hb15 h => ?_) fun hb15 h => ?_
 ·refine AW.ro ?_
  refine AW.ret ?_
  cases h; refine nz ?_; exact .same _
 refine AW.ro ?_
 refine cm h r08_well_ok fun r16 hx17 h => ?_
 refine AW.ks [] [27] ?_
 refine AW.tk h (fun hb18 h => ?_) fun hb18 h => ?_
 ·refine AW.ro ?_
  refine AW.ret ?_
  cases h; refine nz ?_; exact .same _
 refine AW.kr [] [] ?_
 refine AW.ret ?_
 cases h; refine nz ?_; exact .same _
/-! ### isochrone/isochroneref08.less -/
def r08_less (K : Nat) (p0 : Int) (p1 : Int) : Option Int := if (decide (p0 < p1)) then
  some (-1 : Int)
 else
  if (decide (p1 < p0)) then
   some (1 : Int)
  else
   some (0 : Int)
set_option maxHeartbeats 4000000 in
theorem r08_less_ok {K : Nat} {p0 : Int} {p1 : Int} {r : Int} (h : r08_less K p0 p1 = some r) : Cn Tryz.prog 51 [.d (.val (.int .i64 p0)), .d (.val (.int .i64 p1))] (.d (.val (.int .i64 r))) := by
 refine Cn.oz Tryz.func51 Tryz.call51 Tryz.ntmps51 Tryz.results51 fun hfit => ?_
 unfold r08_less at h
 refine AW.kr [] [0, 1] ?_
 refine AW.ks [] [0, 1] ?_
 refine AW.one ?_
 refine AW.ro ?_
 refine AW.ks [] [0, 1, 7] ?_
 refine AW.tk h (fun hb1 h => ?_) fun hb1 h => ?_
 ·refine AW.ro ?_
  refine AW.ret ?_
  cases h; refine nz ?_; exact .same _
 refine AW.ks [] [0, 1] ?_
 refine AW.one ?_
 refine AW.ro ?_
 refine AW.ks [] [10] ?_
 refine AW.tk h (fun hb2 h => ?_) fun hb2 h => ?_
 ·refine AW.ro ?_
  refine AW.ret ?_
  cases h; refine nz ?_; exact .same _
 refine AW.kr [] [] ?_
 refine AW.ret ?_
 cases h; refine nz ?_; exact .same _
/-! ### isochrone/isochroneref08.words -/
def r08_words (K : Nat) (p0 : List Int) (p1 : List Int) : Option Int := if ((p0.length : Int) != (p1.length : Int)) then
  if (decide ((p0.length : Int) < (p1.length : Int))) then
   some (-1 : Int)
  else
   some (1 : Int)
 else
  ((iter (S := Int) (R := Out Unit _) K (fun again i3_0 =>
   if (decide ((0 : Int) ≤ i3_0)) then
    (idx p0 i3_0).bind fun x8 =>
    (idx p1 i3_0).bind fun x10 =>
    if (x8 != x10) then
     if (decide (x8 < x10)) then
      outM (
       some (-1 : Int))
     else
      outM (
       some (1 : Int))
    else
     again (IntKind.wrap .i64 (i3_0 - (1 : Int)))
   else
    some (.go ())) (IntKind.wrap .i64 ((p0.length : Int) - (1 : Int)))) : Option (Out Unit _)).bind (Out.fin fun _ =>
  some (0 : Int))
set_option maxHeartbeats 4000000 in
theorem r08_words_ok {K : Nat} {p0 : List Int} {p1 : List Int} {r : Int} (h : r08_words K p0 p1 = some r) : Cn Tryz.prog 52 [.d (slD u32V p0), .d (slD u32V p1)] (.d (.val (.int .i64 r))) := by
 refine Cn.oz Tryz.func52 Tryz.call52 Tryz.ntmps52 Tryz.results52 fun hfit => ?_
 unfold r08_words at h
 refine AW.kr [] [0, 1] ?_
 refine AW.ks [] [0, 1] ?_
 refine AW.one ?_
 refine AW.ro ?_
 refine AW.ks [] [0, 1, 10] ?_
 refine AW.tk h (fun hb1 h => ?_) fun hb1 h => ?_
 ·refine AW.one ?_
  refine AW.ro ?_
  refine AW.ks [] [15] ?_
  refine AW.tk h (fun hb2 h => ?_) fun hb2 h => ?_
  ·refine AW.ro ?_
   refine AW.ret ?_
   cases h; refine nz ?_; exact .same _
  refine AW.kr [] [] ?_
  refine AW.ret ?_
  cases h; refine nz ?_; exact .same _
 refine AW.ks [] [0, 1] ?_
 refine AW.one ?_
 refine AW.ro ?_
 refine AW.ks [] [0, 1, 5] ?_
 refine AW.lp h (fun _ => []) (fun _ => []) (fun i3_0 => [(0, vL u32V p0), (1, vL u32V p1), (5, vI i3_0)]) (fun i3_0 => []) [] (fun oJ6 hJ6 again i3_0 h => ?_) fun ⟨⟩ h => ?_
 ·refine AW.one ?_
  refine AW.ro ?_
  refine AW.ks [] [0, 1, 5, 20] ?_
  refine AW.tt h (fun hb7 h => ?_) fun hb7 h => ?_
  ·refine AW.sk ?_
   refine AW.ks [] [0, 1, 5] ?_
   refine AW.one ?_
   refine AW.block ?_
   refine AW.ro ?_
   refine bx h fun x8 h0 h1 h => ?_
   refine bx h fun x10 h0 h1 h => ?_
   refine AW.ks [] [0, 1, 5, 31] ?_
   refine AW.tk h (fun hb12 h => ?_) fun hb12 h => ?_
   ·refine AW.one ?_
    refine AW.ro ?_
    refine AW.ks [] [40] ?_
    refine AW.tk h (fun hb13 h => ?_) fun hb13 h => ?_
    ·refine AW.ro ?_
     refine AW.ret ?_
     have h := up h hJ6
     cases h; refine nz ?_; exact .same _
    refine AW.kr [] [] ?_
    refine AW.ret ?_
    have h := up h hJ6
    cases h; refine nz ?_; exact .same _
   refine AW.ks [] [0, 1, 5] ?_
   refine AW.rp ?_
   exact na [] h
  refine AW.ex ?_
  exact jo [] h
 refine AW.kr [] [] ?_
 refine AW.ret ?_
 cases h; refine nz ?_; exact .same _
/-! ### isochrone/isochroneref08.Compare -/
def r08_Compare_body (K : Nat) (self32 : (NodeA × NodeA) → Option Int) (p0 : NodeA) (p1 : NodeA) : Option Int := (r08_less K p0.op p1.op).bind fun r1 =>
 if (r1 != (0 : Int)) then
  some r1
 else
  if (!(p0.name.toList == p1.name.toList)) then
   if (Op.bytesLess p0.name.toList p1.name.toList) then
    some (-1 : Int)
   else
    some (1 : Int)
  else
   if (!(p0.num.neg == p1.num.neg)) then
    if p1.num.neg then
     some (-1 : Int)
    else
     some (1 : Int)
   else
    (r08_words K p0.num.num p1.num.num).bind fun r8 =>
    if (r8 != (0 : Int)) then
     some r8
    else
     (r08_words K p0.num.den p1.num.den).bind fun r11 =>
     if (r11 != (0 : Int)) then
      some r11
     else
      (r08_less K (p0.kids.length : Int) (p1.kids.length : Int)).bind fun r14 =>
      if (r14 != (0 : Int)) then
       some r14
      else
       ((iter (S := Int) (R := Out Unit _) K (fun again i17_0 =>
        if (decide (i17_0 < (p0.kids.length : Int))) then
         (idx p0.kids i17_0).bind fun x22 =>
         (idx p1.kids i17_0).bind fun x24 =>
         (self32 (x22, x24)).bind fun r26 =>
         if (r26 != (0 : Int)) then
          outM (
           some r26)
         else
          again (IntKind.wrap .i64 (i17_0 + (1 : Int)))
        else
         some (.go ())) (0 : Int)) : Option (Out Unit _)).bind (Out.fin fun _ =>
       some (0 : Int))
set_option maxHeartbeats 4000000 in
theorem r08_Compare_step (K : Nat) (self32 : (NodeA × NodeA) → Option Int) (hself32 : ∀ (q : NodeA × NodeA) (r : Int), self32 q = some r → Cn Tryz.prog 32 [aggV q.1.enc, aggV q.2.enc] (.d (.val (.int .i64 r)))) (p0 : NodeA) (p1 : NodeA) (r : Int) (h : r08_Compare_body K self32 p0 p1 = some r) : Cn Tryz.prog 32 [aggV p0.enc, aggV p1.enc] (.d (.val (.int .i64 r))) := by
 refine Cn.oz Tryz.func32 Tryz.call32 Tryz.ntmps32 Tryz.results32 fun hfit => ?_
 unfold r08_Compare_body at h
 refine AW.kr [] [0, 1] ?_
 refine AW.ks [0, 1] [2, 3] ?_
 refine AW.one ?_
 refine AW.ro ?_
 refine cm h r08_less_ok fun r1 hx2 h => ?_
 refine AW.kr [0, 1] [2, 3, 5] ?_
 refine AW.ks [0, 1] [2, 3, 5, 17] ?_
 refine AW.tk h (fun hb3 h => ?_) fun hb3 h => ?_
 ·refine AW.ro ?_
  refine AW.ret ?_
  cases h; refine nz ?_; exact .same _
 refine AW.ks [0, 1] [2, 3] ?_
 refine AW.one ?_
 refine AW.ro ?_
 refine AW.ks [0, 1] [2, 3, 23] ?_
 refine AW.tk h (fun hb4 h => ?_) fun hb4 h => ?_
 ·refine AW.one ?_
  refine AW.ro ?_
  refine AW.ks [] [28] ?_
  refine AW.tk h (fun hb5 h => ?_) fun hb5 h => ?_
  ·refine AW.ro ?_
   refine AW.ret ?_
   cases h; refine nz ?_; exact .same _
  refine AW.kr [] [] ?_
  refine AW.ret ?_
  cases h; refine nz ?_; exact .same _
 refine AW.ks [0, 1] [2, 3] ?_
 refine AW.one ?_
 refine AW.ro ?_
 refine AW.ks [0, 1] [2, 3, 35] ?_
 refine AW.tk h (fun hb6 h => ?_) fun hb6 h => ?_
 ·refine AW.one ?_
  refine AW.ro ?_
  refine AW.ks [] [38] ?_
  refine AW.tk h (fun hb7 h => ?_) fun hb7 h => ?_
  ·refine AW.ro ?_
   refine AW.ret ?_
   cases h; refine nz ?_; exact .same _
  refine AW.kr [] [] ?_
  refine AW.ret ?_
  cases h; refine nz ?_; exact .same _
 refine AW.ks [0, 1] [2, 3] ?_
 refine AW.one ?_
 refine AW.ro ?_
 refine cm h r08_words_ok fun r8 hx9 h => ?_
 refine AW.kr [0, 1] [2, 3, 6] ?_
 refine AW.ks [0, 1] [2, 3, 6, 47] ?_
 refine AW.tk h (fun hb10 h => ?_) fun hb10 h => ?_
 ·refine AW.ro ?_
  refine AW.ret ?_
  cases h; refine nz ?_; exact .same _
 refine AW.ks [0, 1] [2, 3] ?_
 refine AW.one ?_
 refine AW.ro ?_
 refine cm h r08_words_ok fun r11 hx12 h => ?_
 refine AW.kr [0, 1] [2, 3, 7] ?_
 refine AW.ks [0, 1] [2, 3, 7, 57] ?_
 refine AW.tk h (fun hb13 h => ?_) fun hb13 h => ?_
 ·refine AW.ro ?_
  refine AW.ret ?_
  cases h; refine nz ?_; exact .same _
 refine AW.ks [0, 1] [2, 3] ?_
 refine AW.one ?_
 refine AW.ro ?_
 refine cm h r08_less_ok fun r14 hx15 h => ?_
 refine AW.kr [0, 1] [2, 3, 8] ?_
 refine AW.ks [0, 1] [2, 3, 8, 67] ?_
 refine AW.tk h (fun hb16 h => ?_) fun hb16 h => ?_
 ·refine AW.ro ?_
  refine AW.ret ?_
  cases h; refine nz ?_; exact .same _
 refine AW.ks [0, 1] [2, 3] ?_
 refine AW.one ?_
 refine AW.ro ?_
 refine AW.ks [0, 1] [2, 3, 9] ?_
 refine AW.lp h (fun _ => []) (fun _ => []) (fun i17_0 => [(2, .ptr 0 6 0 0), (3, .ptr 1 6 0 0), (9, vI i17_0)]) (fun i17_0 => [vE p0.enc, vE p1.enc]) [0, 1] (fun oJ20 hJ20 again i17_0 h => ?_) fun ⟨⟩ h => ?_
 ·refine AW.one ?_
  refine AW.ro ?_
  refine AW.ks [0, 1] [2, 3, 9, 73] ?_
  refine AW.tt h (fun hb21 h => ?_) fun hb21 h => ?_
  ·refine AW.sk ?_
   refine AW.ks [0, 1] [2, 3, 9] ?_
   refine AW.one ?_
   refine AW.block ?_
   refine AW.ro ?_
   refine bx h fun x22 h0 h1 h => ?_
   refine bx h fun x24 h0 h1 h => ?_
   refine pm h (hself32 _ _) fun r26 hx27 h => ?_
   refine AW.kr [0, 1] [2, 3, 9, 10] ?_
   refine AW.ks [0, 1] [2, 3, 9, 10, 88] ?_
   refine AW.tk h (fun hb28 h => ?_) fun hb28 h => ?_
   ·refine AW.ro ?_
    refine AW.ret ?_
    have h := up h hJ20
    cases h; refine nz ?_; exact .same _
   refine AW.ks [0, 1] [2, 3, 9] ?_
   refine AW.rp ?_
   exact na [0, 1] h
  refine AW.ex ?_
  exact jo [] h
 refine AW.kr [] [] ?_
 refine AW.ret ?_
 cases h; refine nz ?_; exact .same _
def r08_Compare (K : Nat) (p0 : NodeA) (p1 : NodeA) : Option Int := iter K (fun self q => r08_Compare_body K self q.1 q.2) (p0, p1)
theorem key_r08_Compare {K : Nat} (k : Nat) : (∀ (q : NodeA × NodeA) (r : Int), iter k (fun self q => r08_Compare_body K self q.1 q.2) q = some r → Cn Tryz.prog 32 [aggV q.1.enc, aggV q.2.enc] (.d (.val (.int .i64 r)))) := by
 induction k with
 | zero => exact fun q r h => by cases h
 | succ k ih => exact fun q r h => r08_Compare_step K _ ih q.1 q.2 r h
theorem r08_Compare_ok {K : Nat} {p0 : NodeA} {p1 : NodeA} {r : Int} (h : r08_Compare K p0 p1 = some r) : Cn Tryz.prog 32 [aggV p0.enc, aggV p1.enc] (.d (.val (.int .i64 r))) := (key_r08_Compare K) (p0, p1) r h
/-! ### isochrone/isochroneref08.Equal -/
def r08_Equal (K : Nat) (p0 : NodeA) (p1 : NodeA) : Option Bool := (r08_Compare K p0 p1).bind fun r1 =>
 some (r1 == (0 : Int))
set_option maxHeartbeats 4000000 in
theorem r08_Equal_ok {K : Nat} {p0 : NodeA} {p1 : NodeA} {r : Bool} (h : r08_Equal K p0 p1 = some r) : Cn Tryz.prog 20 [aggV p0.enc, aggV p1.enc] (.d (.val (.bool r))) := by
 refine Cn.oz Tryz.func20 Tryz.call20 Tryz.ntmps20 Tryz.results20 fun hfit => ?_
 unfold r08_Equal at h
 refine AW.kr [] [0, 1] ?_
 refine AW.kr [0, 1] [2, 3] ?_
 refine cm h r08_Compare_ok fun r1 hx2 h => ?_
 refine AW.ret ?_
 cases h; refine nz ?_; exact .same _
/-! ### isochrone/isochroneref08.SameNodes -/
def r08_SameNodes (K : Nat) (p0 : List NodeA) (p1 : List NodeA) : Option Bool := if ((p0.length : Int) != (p1.length : Int)) then
  some false
 else
  ((iter (S := Int) (R := Out Unit _) K (fun again i2_0 =>
   if (decide (i2_0 < (p0.length : Int))) then
    (idx p0 i2_0).bind fun x7 =>
    (idx p1 i2_0).bind fun x9 =>
    (r08_Equal K x7 x9).bind fun r11 =>
    if (!r11) then
     outM (
      some false)
    else
     again (IntKind.wrap .i64 (i2_0 + (1 : Int)))
   else
    some (.go ())) (0 : Int)) : Option (Out Unit _)).bind (Out.fin fun _ =>
  some true)
set_option maxHeartbeats 4000000 in
theorem r08_SameNodes_ok {K : Nat} {p0 : List NodeA} {p1 : List NodeA} {r : Bool} (h : r08_SameNodes K p0 p1 = some r) : Cn Tryz.prog 21 [.d (slD NodeA.enc p0), .d (slD NodeA.enc p1)] (.d (.val (.bool r))) := by
 refine Cn.oz Tryz.func21 Tryz.call21 Tryz.ntmps21 Tryz.results21 fun hfit => ?_
 unfold r08_SameNodes at h
 refine AW.kr [] [0, 1] ?_
 refine AW.ks [] [0, 1] ?_
 refine AW.one ?_
 refine AW.ro ?_
 refine AW.ks [] [0, 1, 10] ?_
 refine AW.tk h (fun hb1 h => ?_) fun hb1 h => ?_
 ·refine AW.ro ?_
  refine AW.ret ?_
  cases h; refine nz ?_; exact .same _
 refine AW.ks [] [0, 1] ?_
 refine AW.one ?_
 refine AW.ro ?_
 refine AW.ks [] [0, 1, 5] ?_
 refine AW.lp h (fun _ => []) (fun _ => []) (fun i2_0 => [(0, vL NodeA.enc p0), (1, vL NodeA.enc p1), (5, vI i2_0)]) (fun i2_0 => []) [] (fun oJ5 hJ5 again i2_0 h => ?_) fun ⟨⟩ h => ?_
 ·refine AW.one ?_
  refine AW.ro ?_
  refine AW.ks [] [0, 1, 5, 14] ?_
  refine AW.tt h (fun hb6 h => ?_) fun hb6 h => ?_
  ·refine AW.sk ?_
   refine AW.ks [] [0, 1, 5] ?_
   refine AW.one ?_
   refine AW.block ?_
   refine AW.ro ?_
   refine bx h fun x7 h0 h1 h => ?_
   refine bx h fun x9 h0 h1 h => ?_
   refine pm h r08_Equal_ok fun r11 hx12 h => ?_
   refine AW.ks [] [0, 1, 5, 26] ?_
   refine AW.tk h (fun hb13 h => ?_) fun hb13 h => ?_
   ·refine AW.ro ?_
    refine AW.ret ?_
    have h := up h hJ5
    cases h; refine nz ?_; exact .same _
   refine AW.ks [] [0, 1, 5] ?_
   refine AW.rp ?_
   exact na [] h
  refine AW.ex ?_
  exact jo [] h
 refine AW.kr [] [] ?_
 refine AW.ret ?_
 cases h; refine nz ?_; exact .same _
/-! ### isochrone/isochroneref19.Text -/
def r19_Text (K : Nat) (p0 : ByteArray) : Option (ByteArray × Int) := (r19_table K ).bind fun r1 =>
 ((iter (S := Int) (R := Out Unit _) K (fun again i3_0 =>
  if (decide (i3_0 < (r1.length : Int))) then
   (idx r1 i3_0).bind fun x8 =>
   if (x8.toList == p0.toList) then
    (idx r1 (IntKind.wrap .i64 (i3_0 + (1 : Int)))).bind fun x11 =>
    outM (
     some (x11, (0 : Int)))
   else
    again (IntKind.wrap .i64 (i3_0 + (2 : Int)))
  else
   some (.go ())) (0 : Int)) : Option (Out Unit _)).bind (Out.fin fun _ =>
 some ((⟨#[]⟩ : ByteArray), (190 : Int)))
set_option maxHeartbeats 4000000 in
theorem r19_Text_ok {K : Nat} {p0 : ByteArray} {r : ByteArray × Int} (h : r19_Text K p0 = some r) : Cn Tryz.prog 16 [.d (.val (.string p0))] (.tup [.d (.val (.string r.1)), .d (.val (.int .i64 r.2))]) := by
 refine Cn.oz Tryz.func16 Tryz.call16 Tryz.ntmps16 Tryz.results16 fun hfit => ?_
 unfold r19_Text at h
 refine AW.kr [] [0] ?_
 refine AW.kr [] [0] ?_
 refine cm h r19_table_ok fun r1 hx2 h => ?_
 refine AW.ks [] [0, 4] ?_
 refine AW.one ?_
 refine AW.ro ?_
 refine AW.ks [] [0, 4, 5] ?_
 refine AW.lp h (fun _ => []) (fun _ => []) (fun i3_0 => [(0, vS p0), (4, vL strV r1), (5, vI i3_0)]) (fun i3_0 => []) [] (fun oJ6 hJ6 again i3_0 h => ?_) fun ⟨⟩ h => ?_
 ·refine AW.one ?_
  refine AW.ro ?_
  refine AW.ks [] [0, 4, 5, 10] ?_
  refine AW.tt h (fun hb7 h => ?_) fun hb7 h => ?_
  ·refine AW.sk ?_
   refine AW.ks [] [0, 4, 5] ?_
   refine AW.one ?_
   refine AW.block ?_
   refine AW.ro ?_
   refine bx h fun x8 h0 h1 h => ?_
   refine AW.ks [] [0, 4, 5, 18] ?_
   refine AW.tk h (fun hb10 h => ?_) fun hb10 h => ?_
   ·refine AW.ro ?_
    refine bx h fun x11 h0 h1 h => ?_
    refine AW.ret ?_
    have h := up h hJ6
    cases h; refine nz ?_; exact .same _
   refine AW.ks [] [0, 4, 5] ?_
   refine AW.rp ?_
   exact na [] h
  refine AW.ex ?_
  exact jo [] h
 refine AW.kr [] [] ?_
 refine AW.ret ?_
 cases h; refine nz ?_; exact .same _
/-! ### isochrone/isochroneref19.Get -/
def r19_Get (K : Nat) (p0 : ByteArray) : Option (NodeA × Int) := (r19_Text K p0).bind fun r1 =>
 if (r1.2 != (0 : Int)) then
  some ((NodeA.mk (0 : Int) (⟨#[]⟩ : ByteArray) (RatA.mk false [] []) []), r1.2)
 else
  (r09_Parse K r1.1 (2 : Int)).bind fun r4 =>
  some (r4.1, r4.2.2)
set_option maxHeartbeats 4000000 in
theorem r19_Get_ok {K : Nat} {p0 : ByteArray} {r : NodeA × Int} (h : r19_Get K p0 = some r) : Cn Tryz.prog 17 [.d (.val (.string p0))] (.tup [aggV r.1.enc, .d (.val (.int .i64 r.2))]) := by
 refine Cn.oz Tryz.func17 Tryz.call17 Tryz.ntmps17 Tryz.results17 fun hfit => ?_
 unfold r19_Get at h
 refine AW.kr [] [0] ?_
 refine AW.kr [0] [0, 2] ?_
 refine cm h r19_Text_ok fun r1 hx2 h => ?_
 refine AW.ks [0] [2, 4, 5] ?_
 refine AW.one ?_
 refine AW.ro ?_
 refine AW.ks [0] [2, 4, 5, 15] ?_
 refine AW.tk h (fun hb3 h => ?_) fun hb3 h => ?_
 ·refine AW.ro ?_
  refine AW.ret ?_
  cases h; refine nz ?_; exact .tupL ⟨.aggL ⟨.same _, .same _, .same _, .nil, .nil, .nil, trivial⟩, .same _, trivial⟩
 refine AW.kr [0] [2, 4] ?_
 refine cm h r09_Parse_ok fun r4 hx5 h => ?_
 refine AW.kr [0, 7] [2, 6, 8] ?_
 refine AW.ret ?_
 cases h; refine nz ?_; exact .same _
/-! ### isochrone/isochroneref10.check -/
def r10_check (K : Nat) (p0 : NodeA) : Option Int := (r08_Sort K p0.op).bind fun r1 =>
 ((
  ((
   if (r1 == (0 : Int)) then
    some true
   else
    some (r1 == (4 : Int))) : Option Bool).bind (fun v5_0 =>
  if v5_0 then
   outM (
    some (80 : Int))
  else
   some (.go ()))) : Option (Out Unit _)).bind (Out.fin fun _ =>
 (r08_Check K p0 r1).bind fun r9 =>
 some r9)
set_option maxHeartbeats 4000000 in
theorem r10_check_ok {K : Nat} {p0 : NodeA} {r : Int} (h : r10_check K p0 = some r) : Cn Tryz.prog 49 [aggV p0.enc] (.d (.val (.int .i64 r))) := by
 refine Cn.oz Tryz.func49 Tryz.call49 Tryz.ntmps49 Tryz.results49 fun hfit => ?_
 unfold r10_check at h
 refine AW.kr [] [0] ?_
 refine AW.kr [0] [1] ?_
 refine cm h r08_Sort_ok fun r1 hx2 h => ?_
 refine AW.ks [0] [1, 3] ?_
 refine AW.jo h (fun _ => [(1, .ptr 0 6 0 0), (3, vI r1)]) (fun _ => [vE p0.enc]) (fun oJ4 h hJ4 => ?_) fun ⟨⟩ h => ?_
 ·refine AW.jn h (fun v5_0 => [(1, .ptr 0 6 0 0), (3, vI r1), (12, vB v5_0)]) (fun v5_0 => [vE p0.enc]) (fun oJ6 h => ?_) fun v5_0 h => ?_
  ·refine AW.rp ?_
   refine sK h (fun hb7 h => ?_) fun hb7 h => ?_
   ·exact ja [0] h
   exact ja [0] h
  refine AW.tk h (fun hb8 h => ?_) fun hb8 h => ?_
  ·refine AW.ro ?_
   refine AW.ret ?_
   have h := up h hJ4
   cases h; refine nz ?_; exact .same _
  exact jo [0] h
 refine AW.ro ?_
 refine cm h r08_Check_ok fun r9 hx10 h => ?_
 refine AW.ret ?_
 cases h; refine nz ?_; exact .same _
/-! ### isochrone/isochroneref10.Head -/
def r10_Head (K : Nat) (p0 : NodeA) : Option NodeA := ((
  if (decide ((0 : Int) < (p0.kids.length : Int))) then
   some [(NodeA.mk (13 : Int) (⟨#[]⟩ : ByteArray) (RatA.mk false [] []) [])]
  else
   some []) : Option (List NodeA)).bind (fun v1_0 =>
 some (NodeA.mk p0.op p0.name (RatA.mk false [] []) v1_0))
set_option maxHeartbeats 4000000 in
theorem r10_Head_ok {K : Nat} {p0 : NodeA} {r : NodeA} (h : r10_Head K p0 = some r) : Cn Tryz.prog 98 [aggV p0.enc] (aggV r.enc) := by
 refine Cn.oz Tryz.func98 Tryz.call98 Tryz.ntmps98 Tryz.results98 fun hfit => ?_
 unfold r10_Head at h
 refine AW.kr [] [0] ?_
 refine AW.kr [0, 1] [1, 2] ?_
 refine AW.ks [0, 1, 7] [1, 2, 3] ?_
 refine AW.jn h (fun v1_0 => [(2, .ptr 0 6 0 0), (3, .ptr 1 6 0 0)]) (fun v1_0 => [some ⟨6, [[vI (0 : Int), vS (⟨#[]⟩ : ByteArray), vB false, .d (.val (.slice none 0 0)), .d (.val (.slice none 0 0)), .d (.val (.slice none 0 0))]]⟩, some ⟨6, [[vI p0.op, vS p0.name, vB false, .d (.val (.slice none 0 0)), .d (.val (.slice none 0 0)), vL NodeA.enc v1_0]]⟩]) (fun oJ2 h => ?_) fun v1_0 h => ?_
 ·refine AW.ro ?_
  refine AW.ks [1, 2] [2, 3, 12] ?_
  refine AW.tk h (fun hb3 h => ?_) fun hb3 h => ?_
  ·refine AW.rp ?_
   refine JoinQ.mkS [(NodeA.mk (13 : Int) (⟨#[]⟩ : ByteArray) (RatA.mk false [] []) [])] [0, 1] [] [] [(1, ⟨6, [[.d (.val (.int .i64 p0.op)), .d (.val (.string p0.name)), .d (.val (.bool false)), .d (.val (.slice none 0 0)), .d (.val (.slice none 0 0)), .d (slD NodeA.enc [(NodeA.mk (13 : Int) (⟨#[]⟩ : ByteArray) (RatA.mk false [] []) [])])]]⟩)] (Option.some.inj h) (by simp only [go_sem, reduceEqDiff, reduceAdd, reduceSub, reduceMul, reduceLeDiff, reduceLT, Nat.reduceBEq, reduceIte, sealL_cons, sealL_nil]) (by simp only [go_sem, reduceEqDiff, reduceAdd, reduceSub, reduceMul, reduceLeDiff, reduceLT, Nat.reduceBEq, reduceIte, sealH_cons, sealH_nil]; exact ⟨⟨.same _, .same _, .same _, .same _, .same _, .d (.dn (.rows (by (try simp only [slD, NodeA.enc_eta, RatA.enc_eta, NodeA.op_mk, NodeA.name_mk, NodeA.num_mk, NodeA.kids_mk, aggV, i64V, u32V, strV, List.map_cons, List.map_nil]); exact ⟨⟨.refl _, .refl _, .refl _, .nil _ _, .nil _ _, .nil _ _, trivial⟩, trivial⟩))), trivial⟩, trivial⟩) (by simp only [go_sem, reduceEqDiff, reduceAdd, reduceSub, reduceMul, reduceLeDiff, reduceLT, Nat.reduceBEq, reduceIte])
  refine JoinQ.mkS [] [0, 1] [] [] [(1, ⟨6, [[.d (.val (.int .i64 p0.op)), .d (.val (.string p0.name)), .d (.val (.bool false)), .d (.val (.slice none 0 0)), .d (.val (.slice none 0 0)), .d (slD NodeA.enc [])]]⟩)] (Option.some.inj h) (by simp only [go_sem, reduceEqDiff, reduceAdd, reduceSub, reduceMul, reduceLeDiff, reduceLT, Nat.reduceBEq, reduceIte, sealL_cons, sealL_nil]) (by simp only [go_sem, reduceEqDiff, reduceAdd, reduceSub, reduceMul, reduceLeDiff, reduceLT, Nat.reduceBEq, reduceIte, sealH_cons, sealH_nil]; exact ⟨⟨.same _, .same _, .same _, .same _, .same _, .nil, trivial⟩, trivial⟩) (by simp only [go_sem, reduceEqDiff, reduceAdd, reduceSub, reduceMul, reduceLeDiff, reduceLT, Nat.reduceBEq, reduceIte])
 refine AW.ro ?_
 refine AW.ret ?_
 cases h; refine nz ?_; exact .aggL ⟨.same _, .same _, .same _, .nil, .nil, .same _, trivial⟩
/-! ### isochrone/isochroneref10.Symbol -/
def r10_Symbol (K : Nat) (p0 : NodeA) : Option Bool := ((
  if (p0.op == (10 : Int)) then
   some (p0.op == (10 : Int))
  else
   if (p0.op == (11 : Int)) then
    some (p0.op == (11 : Int))
   else
    if (p0.op == (37 : Int)) then
     some (p0.op == (37 : Int))
    else
     if (p0.op == (38 : Int)) then
      some (p0.op == (38 : Int))
     else
      if (p0.op == (61 : Int)) then
       some (p0.op == (61 : Int))
      else
       if (p0.op == (62 : Int)) then
        some (p0.op == (62 : Int))
       else
        some (p0.op == (56 : Int))) : Option Bool).bind (fun v1_0 =>
 if v1_0 then
  some true
 else
  some false)
set_option maxHeartbeats 4000000 in
theorem r10_Symbol_ok {K : Nat} {p0 : NodeA} {r : Bool} (h : r10_Symbol K p0 = some r) : Cn Tryz.prog 96 [aggV p0.enc] (.d (.val (.bool r))) := by
 refine Cn.oz Tryz.func96 Tryz.call96 Tryz.ntmps96 Tryz.results96 fun hfit => ?_
 unfold r10_Symbol at h
 refine AW.kr [] [0] ?_
 refine AW.ks [0] [1] ?_
 refine AW.one ?_
 refine AW.ro ?_
 refine AW.ks [] [4] ?_
 refine AW.block ?_
 refine AW.jn h (fun v1_0 => [(5, vB v1_0)]) (fun v1_0 => []) (fun oJ2 h => ?_) fun v1_0 h => ?_
 ·refine AW.ro ?_
  refine AW.ks [] [4, 5] ?_
  refine AW.tt h (fun hb3 h => ?_) fun hb3 h => ?_
  ·refine AW.sk ?_
   exact ja [] h
  refine AW.ro ?_
  refine AW.ks [] [4, 5] ?_
  refine AW.tt h (fun hb4 h => ?_) fun hb4 h => ?_
  ·refine AW.sk ?_
   exact ja [] h
  refine AW.ro ?_
  refine AW.ks [] [4, 5] ?_
  refine AW.tt h (fun hb5 h => ?_) fun hb5 h => ?_
  ·refine AW.sk ?_
   exact ja [] h
  refine AW.ro ?_
  refine AW.ks [] [4, 5] ?_
  refine AW.tt h (fun hb6 h => ?_) fun hb6 h => ?_
  ·refine AW.sk ?_
   exact ja [] h
  refine AW.ro ?_
  refine AW.ks [] [4, 5] ?_
  refine AW.tt h (fun hb7 h => ?_) fun hb7 h => ?_
  ·refine AW.sk ?_
   exact ja [] h
  refine AW.ro ?_
  refine AW.ks [] [4, 5] ?_
  refine AW.tt h (fun hb8 h => ?_) fun hb8 h => ?_
  ·refine AW.sk ?_
   exact ja [] h
  refine AW.rp ?_
  exact ja [] h
 refine AW.tk h (fun hb9 h => ?_) fun hb9 h => ?_
 ·refine AW.ro ?_
  refine AW.ret ?_
  cases h; refine nz ?_; exact .same _
 refine AW.kr [] [] ?_
 refine AW.ret ?_
 cases h; refine nz ?_; exact .same _
/-! ### isochrone/isochroneref10.put -/
def r10_put (K : Nat) (p0 : List NodeA) (p1 : NodeA) : Option (List NodeA) := ((iter (S := Bool × Int × (List NodeA)) (R := Out (Bool × (List NodeA)) _) K (fun again (i1_0, i1_1, i1_2) =>
  if (decide (i1_1 < (p0.length : Int))) then
   ((
    (idx p0 i1_1).bind fun x8 =>
    (r08_Compare K x8 p1).bind fun r10 =>
    if (r10 == (0 : Int)) then
     outM (
      outM (
       some p0))
    else
     ((
      ((
       if (decide ((0 : Int) < r10)) then
        some (!i1_0)
       else
        some false) : Option Bool).bind (fun v15_0 =>
      if v15_0 then
       (appO 104 i1_2 [p1]).bind fun l19 =>
       some (true, l19)
      else
       some (i1_0, i1_2))) : Option (Bool × (List NodeA))).bind (fun (v13_0, v13_1) =>
     (appO 104 v13_1 [x8]).bind fun l21 =>
     some (.go (v13_0, l21)))) : Option (Out (Bool × (List NodeA)) _)).bind (Out.fin fun (v6_0, v6_1) =>
   again (v6_0, IntKind.wrap .i64 (i1_1 + (1 : Int)), v6_1))
  else
   some (.go (i1_0, i1_2))) (false, (0 : Int), [])) : Option (Out (Bool × (List NodeA)) _)).bind (Out.fin fun (e2_0, e2_1) =>
 if (!e2_0) then
  (appO 104 e2_1 [p1]).bind fun l24 =>
  some l24
 else
  some e2_1)
set_option maxHeartbeats 4000000 in
theorem r10_put_ok {K : Nat} {p0 : List NodeA} {p1 : NodeA} {r : (List NodeA)} (h : r10_put K p0 p1 = some r) : Cn Tryz.prog 97 [.d (slD NodeA.enc p0), aggV p1.enc] (.d (slD NodeA.enc r)) := by
 refine Cn.oz Tryz.func97 Tryz.call97 Tryz.ntmps97 Tryz.results97 fun hfit => ?_
 unfold r10_put at h
 refine AW.kr [] [0, 1] ?_
 refine AW.kr [0] [0, 3] ?_
 refine AW.kr [0] [0, 3, 5] ?_
 refine AW.ks [0] [0, 3, 5, 6] ?_
 refine AW.one ?_
 refine AW.ro ?_
 refine AW.ks [0] [0, 3, 5, 6, 7] ?_
 refine AW.lp h (fun (e2_0, e2_1) => [(3, .ptr 0 6 0 0), (5, accV 1 6 ((e2_1.map NodeA.enc).map (·.map .d))), (6, vB e2_0)]) (fun (e2_0, e2_1) => [vE p1.enc, accO 6 ((e2_1.map NodeA.enc).map (·.map .d))]) (fun (i1_0, i1_1, i1_2) => [(0, vL NodeA.enc p0), (3, .ptr 0 6 0 0), (5, accV 1 6 ((i1_2.map NodeA.enc).map (·.map .d))), (6, vB i1_0), (7, vI i1_1)]) (fun (i1_0, i1_1, i1_2) => [vE p1.enc, accO 6 ((i1_2.map NodeA.enc).map (·.map .d))]) [0, 1001] (fun oJ4 hJ4 again ⟨i1_0, i1_1, i1_2⟩ h => ?_) fun ⟨e2_0, e2_1⟩ h => ?_
 ·try dsimp only at h
  refine AW.one ?_
  refine AW.ro ?_
  refine AW.ks [0, 1] [0, 3, 5, 6, 7, 12] ?_
  refine AW.tt h (fun hb5 h => ?_) fun hb5 h => ?_
  ·refine AW.sk ?_
   refine AW.ks [0, 1] [0, 3, 5, 6, 7] ?_
   refine AW.jo h (fun (v6_0, v6_1) => [(0, vL NodeA.enc p0), (3, .ptr 0 6 0 0), (5, accV 1 6 ((v6_1.map NodeA.enc).map (·.map .d))), (6, vB v6_0), (7, vI i1_1)]) (fun (v6_0, v6_1) => [vE p1.enc, accO 6 ((v6_1.map NodeA.enc).map (·.map .d))]) (fun oJ7 h hJ7 => ?_) fun ⟨v6_0, v6_1⟩ h => ?_
   ·refine AW.block ?_
    refine AW.ro ?_
    refine bx h fun x8 h0 h1 h => ?_
    refine pm h r08_Compare_ok fun r10 hx11 h => ?_
    refine AW.ks [0, 1] [0, 3, 5, 6, 7, 8] ?_
    refine AW.one ?_
    refine AW.ro ?_
    refine AW.ks [0, 1] [0, 3, 5, 6, 7, 8, 22] ?_
    refine AW.tk h (fun hb12 h => ?_) fun hb12 h => ?_
    ·refine AW.ro ?_
     refine AW.ret ?_
     have h := up h hJ7
     have h := up h hJ4
     cases h; refine nz ?_; exact .same _
    refine AW.ks [0, 1] [0, 3, 5, 6, 7, 8] ?_
    refine AW.jn h (fun (v13_0, v13_1) => [(0, vL NodeA.enc p0), (3, .ptr 0 6 0 0), (5, accV 1 6 ((v13_1.map NodeA.enc).map (·.map .d))), (6, vB v13_0), (7, vI i1_1)]) (fun (v13_0, v13_1) => [vE p1.enc, accO 6 ((v13_1.map NodeA.enc).map (·.map .d))]) (fun oJ14 h => ?_) fun ⟨v13_0, v13_1⟩ h => ?_
    ·refine AW.jn h (fun v15_0 => [(0, vL NodeA.enc p0), (3, .ptr 0 6 0 0), (5, accV 1 6 ((i1_2.map NodeA.enc).map (·.map .d))), (6, vB i1_0), (7, vI i1_1), (29, vB v15_0)]) (fun v15_0 => [vE p1.enc, accO 6 ((i1_2.map NodeA.enc).map (·.map .d))]) (fun oJ16 h => ?_) fun v15_0 h => ?_
     ·refine AW.rp ?_
      refine sK h (fun hb17 h => ?_) fun hb17 h => ?_
      ·exact ja [0, 1] h
      exact ja [0, 1] h
     refine AW.tk h (fun hb18 h => ?_) fun hb18 h => ?_
     ·refine AW.ro ?_
      refine ag (f := NodeA.enc) h fun l19 hx20 h => ?_
      refine AW.ks [0, 5] [0, 3, 5, 7] ?_
      refine AW.rp ?_
      exact ja [0, 1] h
     exact ja [0, 1] h
    try dsimp only at h
    refine AW.rp ?_
    refine ag (f := NodeA.enc) h fun l21 hx22 h => ?_
    exact jo [0, 8] h
   try dsimp only at h
   refine AW.rp ?_
   exact na [0, 1] h
  refine AW.ex ?_
  exact jo [0, 1] h
 try dsimp only at h
 refine AW.ks [0, 1] [3, 5, 6] ?_
 refine AW.one ?_
 refine AW.ro ?_
 refine AW.ks [0, 1] [3, 5, 42] ?_
 refine AW.tk h (fun hb23 h => ?_) fun hb23 h => ?_
 ·refine AW.rp ?_
  refine ag (f := NodeA.enc) h fun l24 hx25 h => ?_
  refine AW.kr [5] [5] ?_
  refine AW.ret ?_
  cases h; refine nz ?_; exact sealAcc (by simp only [go_sem, reduceEqDiff, reduceAdd, reduceSub, reduceMul, reduceLeDiff, reduceLT, Nat.reduceBEq, reduceIte])
 refine AW.kr [1] [5] ?_
 refine AW.ret ?_
 cases h; refine nz ?_; exact sealAcc (by simp only [go_sem, reduceEqDiff, reduceAdd, reduceSub, reduceMul, reduceLeDiff, reduceLT, Nat.reduceBEq, reduceIte])
/-! ### isochrone/isochroneref10.heads -/
def r10_heads_body (K : Nat) (self50 : ((List NodeA) × NodeA) → Option (List NodeA)) (p0 : List NodeA) (p1 : NodeA) : Option (List NodeA) := ((
  (r10_Symbol K p1).bind fun r3 =>
  if r3 then
   (r10_Head K p1).bind fun r6 =>
   (r10_put K p0 r6).bind fun r8 =>
   some r8
  else
   some p0) : Option (List NodeA)).bind (fun v1_0 =>
 ((iter (S := (List NodeA) × Int) (R := (List NodeA)) K (fun again (i10_0, i10_1) =>
  if (decide (i10_1 < (p1.kids.length : Int))) then
   (idx p1.kids i10_1).bind fun x15 =>
   (self50 (i10_0, x15)).bind fun r17 =>
   again (r17, IntKind.wrap .i64 (i10_1 + (1 : Int)))
  else
   some i10_0) (v1_0, (0 : Int))) : Option (List NodeA)).bind (fun e11_0 =>
 some e11_0))
set_option maxHeartbeats 4000000 in
theorem r10_heads_step (K : Nat) (self50 : ((List NodeA) × NodeA) → Option (List NodeA)) (hself50 : ∀ (q : (List NodeA) × NodeA) (r : (List NodeA)), self50 q = some r → Cn Tryz.prog 50 [.d (slD NodeA.enc q.1), aggV q.2.enc] (.d (slD NodeA.enc r))) (p0 : List NodeA) (p1 : NodeA) (r : (List NodeA)) (h : r10_heads_body K self50 p0 p1 = some r) : Cn Tryz.prog 50 [.d (slD NodeA.enc p0), aggV p1.enc] (.d (slD NodeA.enc r)) := by
 refine Cn.oz Tryz.func50 Tryz.call50 Tryz.ntmps50 Tryz.results50 fun hfit => ?_
 unfold r10_heads_body at h
 refine AW.kr [] [0, 1] ?_
 refine AW.ks [0] [0, 3] ?_
 refine AW.jn h (fun v1_0 => [(0, vL NodeA.enc v1_0), (3, .ptr 0 6 0 0)]) (fun v1_0 => [vE p1.enc]) (fun oJ2 h => ?_) fun v1_0 h => ?_
 ·refine AW.ro ?_
  refine cm h r10_Symbol_ok fun r3 hx4 h => ?_
  refine AW.ks [0] [0, 3, 7] ?_
  refine AW.tk h (fun hb5 h => ?_) fun hb5 h => ?_
  ·refine AW.rp ?_
   refine cm h r10_Head_ok fun r6 hx7 h => ?_
   refine cm h r10_put_ok fun r8 hx9 h => ?_
   exact ja [0] h
  exact ja [0] h
 refine AW.one ?_
 refine AW.ro ?_
 refine AW.ks [0] [0, 3, 5] ?_
 refine AW.lm h (fun e11_0 => [(0, vL NodeA.enc e11_0)]) (fun e11_0 => []) (fun (i10_0, i10_1) => [(0, vL NodeA.enc i10_0), (3, .ptr 0 6 0 0), (5, vI i10_1)]) (fun (i10_0, i10_1) => [vE p1.enc]) [0] (fun oJ13 again ⟨i10_0, i10_1⟩ h => ?_) fun e11_0 h => ?_
 ·try dsimp only at h
  refine AW.one ?_
  refine AW.ro ?_
  refine AW.ks [0] [0, 3, 5, 16] ?_
  refine AW.tt h (fun hb14 h => ?_) fun hb14 h => ?_
  ·refine AW.sk ?_
   refine AW.ks [0] [0, 3, 5] ?_
   refine AW.one ?_
   refine AW.block ?_
   refine AW.rp ?_
   refine bx h fun x15 h0 h1 h => ?_
   refine cm h (hself50 _ _) fun r17 hx18 h => ?_
   refine AW.ks [0] [0, 3, 5] ?_
   refine AW.rp ?_
   exact na [0] h
  refine AW.ex ?_
  exact ja [] h
 refine AW.kr [] [0] ?_
 refine AW.ret ?_
 cases h; refine nz ?_; exact .same _
def r10_heads (K : Nat) (p0 : List NodeA) (p1 : NodeA) : Option (List NodeA) := iter K (fun self q => r10_heads_body K self q.1 q.2) (p0, p1)
theorem key_r10_heads {K : Nat} (k : Nat) : (∀ (q : (List NodeA) × NodeA) (r : (List NodeA)), iter k (fun self q => r10_heads_body K self q.1 q.2) q = some r → Cn Tryz.prog 50 [.d (slD NodeA.enc q.1), aggV q.2.enc] (.d (slD NodeA.enc r))) := by
 induction k with
 | zero => exact fun q r h => by cases h
 | succ k ih => exact fun q r h => r10_heads_step K _ ih q.1 q.2 r h
theorem r10_heads_ok {K : Nat} {p0 : List NodeA} {p1 : NodeA} {r : (List NodeA)} (h : r10_heads K p0 p1 = some r) : Cn Tryz.prog 50 [.d (slD NodeA.enc p0), aggV p1.enc] (.d (slD NodeA.enc r)) := (key_r10_heads K) (p0, p1) r h
/-! ### isochrone/isochroneref10.Symbols -/
def r10_Symbols (K : Nat) (p0 : NodeA) : Option ((List NodeA) × Int) := (r10_check K p0).bind fun r1 =>
 if (r1 != (0 : Int)) then
  some ([], r1)
 else
  (r10_heads K [] p0).bind fun r4 =>
  some (r4, (0 : Int))
set_option maxHeartbeats 4000000 in
theorem r10_Symbols_ok {K : Nat} {p0 : NodeA} {r : (List NodeA) × Int} (h : r10_Symbols K p0 = some r) : Cn Tryz.prog 31 [aggV p0.enc] (.tup [.d (slD NodeA.enc r.1), .d (.val (.int .i64 r.2))]) := by
 refine Cn.oz Tryz.func31 Tryz.call31 Tryz.ntmps31 Tryz.results31 fun hfit => ?_
 unfold r10_Symbols at h
 refine AW.kr [] [0] ?_
 refine AW.ks [0] [1] ?_
 refine AW.one ?_
 refine AW.ro ?_
 refine cm h r10_check_ok fun r1 hx2 h => ?_
 refine AW.kr [0] [1, 4] ?_
 refine AW.ks [0] [1, 4, 8] ?_
 refine AW.tk h (fun hb3 h => ?_) fun hb3 h => ?_
 ·refine AW.ro ?_
  refine AW.ret ?_
  cases h; refine nz ?_; exact .tupL ⟨.nil, .same _, trivial⟩
 refine AW.kr [0] [1] ?_
 refine cv h r10_heads_ok (fun r4 hx5 h => ?_) (hs := by exact ⟨.nil, .same _, trivial⟩)
 refine AW.ret ?_
 cases h; refine nz ?_; exact .same _
/-! ### isochrone/isochroneref19.Uses -/
def r19_Uses (K : Nat) (p0 : ByteArray) : Option ((List NodeA) × Int) := (r19_Get K p0).bind fun r1 =>
 if (r1.2 != (0 : Int)) then
  some ([], r1.2)
 else
  (r10_Symbols K r1.1).bind fun r4 =>
  some (r4.1, r4.2)
set_option maxHeartbeats 4000000 in
theorem r19_Uses_ok {K : Nat} {p0 : ByteArray} {r : (List NodeA) × Int} (h : r19_Uses K p0 = some r) : Cn Tryz.prog 19 [.d (.val (.string p0))] (.tup [.d (slD NodeA.enc r.1), .d (.val (.int .i64 r.2))]) := by
 refine Cn.oz Tryz.func19 Tryz.call19 Tryz.ntmps19 Tryz.results19 fun hfit => ?_
 unfold r19_Uses at h
 refine AW.kr [] [0] ?_
 refine AW.kr [] [0] ?_
 refine cm h r19_Get_ok fun r1 hx2 h => ?_
 refine AW.ks [5] [4, 5] ?_
 refine AW.one ?_
 refine AW.ro ?_
 refine AW.ks [0] [4, 5, 12] ?_
 refine AW.tk h (fun hb3 h => ?_) fun hb3 h => ?_
 ·refine AW.ro ?_
  refine AW.ret ?_
  cases h; refine nz ?_; exact .tupL ⟨.nil, .same _, trivial⟩
 refine AW.kr [0] [4] ?_
 refine cm h r10_Symbols_ok fun r4 hx5 h => ?_
 refine AW.ret ?_
 cases h; refine nz ?_; exact .same _
/-! ### isochrone/isochronelaw19.entry -/
def law19_entry (K : Nat) (p0 : ByteArray) : Option Bool := (axiom_Text K p0).bind fun r1 =>
 (r19_Text K p0).bind fun r3 =>
 (axiom_Get K p0).bind fun r5 =>
 (r19_Get K p0).bind fun r7 =>
 (axiom_Uses K p0).bind fun r9 =>
 (r19_Uses K p0).bind fun r11 =>
 if (r1.2 == r3.2) then
  if (r1.1.toList == r3.1.toList) then
   if (r5.2 == r7.2) then
    (r08_Equal K r5.1 r7.1).bind fun r16 =>
    if r16 then
     if (r9.2 == r11.2) then
      (r08_SameNodes K r9.1 r11.1).bind fun r20 =>
      if r20 then
       if (r1.2 != (0 : Int)) then
        some true
       else
        (r08_Check K r5.1 (2 : Int)).bind fun r24 =>
        some (r24 == (0 : Int))
      else
       some false
     else
      some false
    else
     some false
   else
    some false
  else
   some false
 else
  some false
set_option maxHeartbeats 4000000 in
theorem law19_entry_ok {K : Nat} {p0 : ByteArray} {r : Bool} (h : law19_entry K p0 = some r) : Cn Tryz.prog 8 [.d (.val (.string p0))] (.d (.val (.bool r))) := by
 refine Cn.oz Tryz.func8 Tryz.call8 Tryz.ntmps8 Tryz.results8 fun hfit => ?_
 unfold law19_entry at h
 refine AW.kr [] [0] ?_
 refine AW.kr [] [0] ?_
 refine cm h axiom_Text_ok fun r1 hx2 h => ?_
 refine AW.kr [] [0, 3, 4] ?_
 refine cm h r19_Text_ok fun r3 hx4 h => ?_
 refine AW.kr [] [0, 3, 4, 5, 6] ?_
 refine cm h axiom_Get_ok fun r5 hx6 h => ?_
 refine AW.kr [5] [0, 3, 4, 5, 6, 7, 8] ?_
 refine cm h r19_Get_ok fun r7 hx8 h => ?_
 refine AW.kr [0, 6] [0, 3, 4, 5, 6, 7, 8, 9, 10] ?_
 refine cm h axiom_Uses_ok fun r9 hx10 h => ?_
 refine AW.kr [0, 1] [0, 3, 4, 5, 6, 7, 8, 9, 10, 11, 12] ?_
 refine cm h r19_Uses_ok fun r11 hx12 h => ?_
 refine AW.kr [0, 1] [3, 4, 5, 6, 7, 8, 9, 10, 11, 12, 13, 14] ?_
 refine sK h (fun hb13 h => ?_) fun hb13 h => ?_
 ·refine sK h (fun hb14 h => ?_) fun hb14 h => ?_
  ·refine sK h (fun hb15 h => ?_) fun hb15 h => ?_
   ·refine cm h r08_Equal_ok fun r16 hx17 h => ?_
    refine sK h (fun hb18 h => ?_) fun hb18 h => ?_
    ·refine sK h (fun hb19 h => ?_) fun hb19 h => ?_
     ·refine cm h r08_SameNodes_ok fun r20 hx21 h => ?_
      refine sK h (fun hb22 h => ?_) fun hb22 h => ?_
      ·refine sK h (fun hb23 h => ?_) fun hb23 h => ?_
       ·refine AW.ret ?_
        cases h; refine nz ?_; exact .same _
       refine cm h r08_Check_ok fun r24 hx25 h => ?_
       refine AW.ret ?_
       cases h; refine nz ?_; exact .same _
      refine AW.ret ?_
      cases h; refine nz ?_; exact .same _
     refine AW.ret ?_
     cases h; refine nz ?_; exact .same _
    refine AW.ret ?_
    cases h; refine nz ?_; exact .same _
   refine AW.ret ?_
   cases h; refine nz ?_; exact .same _
  refine AW.ret ?_
  cases h; refine nz ?_; exact .same _
 refine AW.ret ?_
 cases h; refine nz ?_; exact .same _
/-! ### isochrone/isochroneref19.Names -/
def r19_Names (K : Nat)  : Option (List ByteArray) := (r19_table K ).bind fun r1 =>
 ((iter (S := Int × (List ByteArray)) (R := (List ByteArray)) K (fun again (i3_0, i3_1) =>
  if (decide (i3_0 < (r1.length : Int))) then
   (idx r1 i3_0).bind fun x8 =>
   (appO 16 i3_1 [x8]).bind fun l10 =>
   again (IntKind.wrap .i64 (i3_0 + (2 : Int)), l10)
  else
   some i3_1) ((0 : Int), [])) : Option (List ByteArray)).bind (fun e4_0 =>
 some e4_0)
set_option maxHeartbeats 4000000 in
theorem r19_Names_ok {K : Nat}  {r : (List ByteArray)} (h : r19_Names K  = some r) : Cn Tryz.prog 7 [] (.d (slD strV r)) := by
 refine Cn.oz Tryz.func7 Tryz.call7 Tryz.ntmps7 Tryz.results7 fun hfit => ?_
 unfold r19_Names at h
 refine AW.kr [] [] ?_
 refine AW.kr [] [] ?_
 refine AW.kr [] [1] ?_
 refine cm h r19_table_ok fun r1 hx2 h => ?_
 refine AW.ks [] [1, 2] ?_
 refine AW.one ?_
 refine AW.ro ?_
 refine AW.ks [] [1, 2, 3] ?_
 refine AW.lm h (fun e4_0 => [(1, accV 0 1 ((e4_0.map strV).map (·.map .d)))]) (fun e4_0 => [accO 1 ((e4_0.map strV).map (·.map .d))]) (fun (i3_0, i3_1) => [(1, accV 0 1 ((i3_1.map strV).map (·.map .d))), (2, vL strV r1), (3, vI i3_0)]) (fun (i3_0, i3_1) => [accO 1 ((i3_1.map strV).map (·.map .d))]) [1000] (fun oJ6 again ⟨i3_0, i3_1⟩ h => ?_) fun e4_0 h => ?_
 ·try dsimp only at h
  refine AW.one ?_
  refine AW.ro ?_
  refine AW.ks [0] [1, 2, 3, 8] ?_
  refine AW.tt h (fun hb7 h => ?_) fun hb7 h => ?_
  ·refine AW.sk ?_
   refine AW.ks [0] [1, 2, 3] ?_
   refine AW.one ?_
   refine AW.block ?_
   refine AW.rp ?_
   refine bx h fun x8 h0 h1 h => ?_
   refine ag (f := strV) h fun l10 hx11 h => ?_
   refine AW.ks [7] [1, 2, 3] ?_
   refine AW.rp ?_
   exact na [0] h
  refine AW.ex ?_
  exact ja [0] h
 refine AW.kr [0] [1] ?_
 refine AW.ret ?_
 cases h; refine nz ?_; exact sealAcc (by simp only [go_sem, reduceEqDiff, reduceAdd, reduceSub, reduceMul, reduceLeDiff, reduceLT, Nat.reduceBEq, reduceIte])
/-! ### isochrone/isochronelaw19.AxiomTable -/
def law19_AxiomTable (K : Nat) (p0 : ByteArray) : Option Bool := (law19_awake K ).bind fun r1 =>
 if (!r1) then
  some false
 else
  (axiom_Names K ).bind fun r4 =>
  (r19_Names K ).bind fun r6 =>
  if ((r4.length : Int) != (r6.length : Int)) then
   some false
  else
   ((iter (S := Int) (R := Out Unit _) K (fun again i9_0 =>
    if (decide (i9_0 < (r4.length : Int))) then
     ((
      ((
       (idx r4 i9_0).bind fun x18 =>
       (idx r6 i9_0).bind fun x20 =>
       if (!(x18.toList == x20.toList)) then
        some true
       else
        (law19_entry K x18).bind fun r23 =>
        some (!r23)) : Option Bool).bind (fun v16_0 =>
      if v16_0 then
       outM (
        outM (
         some false))
      else
       some (.go ()))) : Option (Out Unit _)).bind (Out.fin fun _ =>
     again (IntKind.wrap .i64 (i9_0 + (1 : Int))))
    else
     some (.go ())) (0 : Int)) : Option (Out Unit _)).bind (Out.fin fun _ =>
   (law19_entry K p0).bind fun r26 =>
   some r26)
set_option maxHeartbeats 4000000 in
theorem law19_AxiomTable_ok {K : Nat} {p0 : ByteArray} {r : Bool} (h : law19_AxiomTable K p0 = some r) : Cn Tryz.prog 3 [.d (.val (.string p0))] (.d (.val (.bool r))) := by
 refine Cn.oz Tryz.func3 Tryz.call3 Tryz.ntmps3 Tryz.results3 fun hfit => ?_
 unfold law19_AxiomTable at h
 refine AW.kr [] [0] ?_
 refine AW.ks [] [0] ?_
 refine AW.one ?_
 refine AW.ro ?_
 refine cm h law19_awake_ok fun r1 hx2 h => ?_
 refine AW.ks [] [0, 7] ?_
 refine AW.tk h (fun hb3 h => ?_) fun hb3 h => ?_
 ·refine AW.ro ?_
  refine AW.ret ?_
  cases h; refine nz ?_; exact .same _
 refine AW.kr [] [0] ?_
 refine cm h axiom_Names_ok fun r4 hx5 h => ?_
 refine cm h r19_Names_ok fun r6 hx7 h => ?_
 refine AW.ks [] [0, 3, 4] ?_
 refine AW.one ?_
 refine AW.ro ?_
 refine AW.ks [] [0, 3, 4, 14] ?_
 refine AW.tk h (fun hb8 h => ?_) fun hb8 h => ?_
 ·refine AW.ro ?_
  refine AW.ret ?_
  cases h; refine nz ?_; exact .same _
 refine AW.ks [] [0, 3, 4] ?_
 refine AW.one ?_
 refine AW.ro ?_
 refine AW.ks [] [0, 3, 4, 5] ?_
 refine AW.lp h (fun _ => [(0, vS p0)]) (fun _ => []) (fun i9_0 => [(0, vS p0), (3, vL strV r4), (4, vL strV r6), (5, vI i9_0)]) (fun i9_0 => []) [] (fun oJ12 hJ12 again i9_0 h => ?_) fun ⟨⟩ h => ?_
 ·refine AW.one ?_
  refine AW.ro ?_
  refine AW.ks [] [0, 3, 4, 5, 18] ?_
  refine AW.tt h (fun hb13 h => ?_) fun hb13 h => ?_
  ·refine AW.sk ?_
   refine AW.ks [] [0, 3, 4, 5] ?_
   refine AW.jo h (fun _ => [(0, vS p0), (3, vL strV r4), (4, vL strV r6), (5, vI i9_0)]) (fun _ => []) (fun oJ15 h hJ15 => ?_) fun ⟨⟩ h => ?_
   ·refine AW.block ?_
    refine AW.jn h (fun v16_0 => [(0, vS p0), (3, vL strV r4), (4, vL strV r6), (5, vI i9_0), (37, vB v16_0)]) (fun v16_0 => []) (fun oJ17 h => ?_) fun v16_0 h => ?_
    ·refine AW.rp ?_
     refine bx h fun x18 h0 h1 h => ?_
     refine bx h fun x20 h0 h1 h => ?_
     refine sK h (fun hb22 h => ?_) fun hb22 h => ?_
     ·exact ja [] h
     refine pm h law19_entry_ok fun r23 hx24 h => ?_
     exact ja [] h
    refine AW.tk h (fun hb25 h => ?_) fun hb25 h => ?_
    ·refine AW.ro ?_
     refine AW.ret ?_
     have h := up h hJ15
     have h := up h hJ12
     cases h; refine nz ?_; exact .same _
    exact jo [] h
   refine AW.rp ?_
   exact na [] h
  refine AW.ex ?_
  exact jo [] h
 refine AW.kr [] [0] ?_
 refine cm h law19_entry_ok fun r26 hx27 h => ?_
 refine AW.ret ?_
 cases h; refine nz ?_; exact .same _
end Go.Proofs.YtafipfdohicfbaaGreat
