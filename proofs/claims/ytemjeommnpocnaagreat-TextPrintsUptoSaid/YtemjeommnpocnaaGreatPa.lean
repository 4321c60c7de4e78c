/- Part of the proof of a law: contracts of the functions that the law reaches, or plain laws of them, out of the abstract layer (the texts YtemjeommnpocnaaGreatIso..). No condition. -/
import Derived.Test.YtemjeommnpocnaaGreatW
import Derived.Test.YtemjeommnpocnaaGreatIsoF
import Derived.Test.YtemjeommnpocnaaGreatIsoU
open Nat (reduceEqDiff reduceAdd reduceSub reduceMul reduceLeDiff reduceLT)
namespace Go.Proofs.YtemjeommnpocnaaGreat
open Go Go.Iso Go.Proofs
set_option linter.unusedSimpArgs false
set_option linter.unusedVariables false
set_option maxRecDepth 100000
/-! ### isochrone/text.blank -/
def text_blank (K : Nat) (p0 : ByteArray) (p1 : Int) : Option Int := ((iter (S := Int) (R := Out Int _) K (fun again i1_0 =>
  if (decide (i1_0 < (p0.size : Int))) then
   (strAt p0 i1_0).bind fun c6 =>
   ((
    if ((c6.toNat : Int) == (32 : Int)) then
     some ((c6.toNat : Int) == (32 : Int))
    else
     if ((c6.toNat : Int) == (9 : Int)) then
      some ((c6.toNat : Int) == (9 : Int))
     else
      some ((c6.toNat : Int) == (10 : Int))) : Option Bool).bind (fun v8_0 =>
   if v8_0 then
    again (IntKind.wrap .i64 (i1_0 + (1 : Int)))
   else
    if ((c6.toNat : Int) == (35 : Int)) then
     ((iter (S := Int) (R := Int) K (fun again i14_0 =>
      ((
       ((
        if (decide (i14_0 < (p0.size : Int))) then
         (strAt p0 i14_0).bind fun c23 =>
         some ((c23.toNat : Int) != (10 : Int))
        else
         some false) : Option Bool).bind (fun v20_0 =>
       if v20_0 then
        some (.go ())
       else
        outM (
         some i14_0))) : Option (Out Unit _)).bind (Out.fin fun _ =>
      again (IntKind.wrap .i64 (i14_0 + (1 : Int))))) i1_0) : Option Int).bind (fun e15_0 =>
     again e15_0)
    else
     outM (
      some i1_0))
  else
   some (.go i1_0)) p1) : Option (Out Int _)).bind (Out.fin fun e2_0 =>
 some e2_0)
set_option maxHeartbeats 4000000 in
theorem text_blank_ok {K : Nat} {p0 : ByteArray} {p1 : Int} {r : Int} (h : text_blank K p0 p1 = some r) : Cn Tryz.prog 37 [.d (.val (.string p0)), .d (.val (.int .i64 p1))] (.d (.val (.int .i64 r))) := by
 refine Cn.oz Tryz.func37 Tryz.call37 Tryz.ntmps37 Tryz.results37 fun hfit => ?_
 unfold text_blank at h
 refine AW.kr [] [0, 1] ?_
 refine AW.ks [] [0, 1] ?_
 refine AW.lo h (fun e2_0 => [(1, vI e2_0)]) (fun e2_0 => []) (fun i1_0 => [(0, vS p0), (1, vI i1_0)]) (fun i1_0 => []) [] (fun oJ4 hJ4 again i1_0 h => ?_) fun e2_0 h => ?_
 ·refine AW.one ?_
  refine AW.ro ?_
  refine AW.ks [] [0, 1, 8] ?_
  refine AW.tt h (fun hb5 h => ?_) fun hb5 h => ?_
  ·refine AW.sk ?_
   refine AW.ks [] [0, 1] ?_
   refine AW.block ?_
   refine AW.ro ?_
   refine bb h fun c6 hx7 h => ?_
   refine AW.ks [] [0, 1, 11] ?_
   refine AW.block ?_
   refine AW.jn h (fun v8_0 => [(0, vS p0), (1, vI i1_0), (11, .d (.val (.int .u8 (c6.toNat : Int)))), (13, vB v8_0)]) (fun v8_0 => []) (fun oJ9 h => ?_) fun v8_0 h => ?_
   ·refine AW.ro ?_
    refine AW.ks [] [0, 1, 11, 13] ?_
    refine AW.tt h (fun hb10 h => ?_) fun hb10 h => ?_
    ·refine AW.sk ?_
     exact ja [] h
    refine AW.ro ?_
    refine AW.ks [] [0, 1, 11, 13] ?_
    refine AW.tt h (fun hb11 h => ?_) fun hb11 h => ?_
    ·refine AW.sk ?_
     exact ja [] h
    refine AW.rp ?_
    exact ja [] h
   refine AW.tt h (fun hb12 h => ?_) fun hb12 h => ?_
   ·refine AW.rp ?_
    exact na [] h
   refine AW.ro ?_
   refine AW.ks [] [0, 1, 19] ?_
   refine AW.tt h (fun hb13 h => ?_) fun hb13 h => ?_
   ·refine AW.lm h (fun e15_0 => [(0, vS p0), (1, vI e15_0)]) (fun e15_0 => []) (fun i14_0 => [(0, vS p0), (1, vI i14_0)]) (fun i14_0 => []) [] (fun oJ17 again i14_0 h => ?_) fun e15_0 h => ?_
    ·refine AW.jo h (fun _ => [(0, vS p0), (1, vI i14_0)]) (fun _ => []) (fun oJ19 h hJ19 => ?_) fun ⟨⟩ h => ?_
     ·refine AW.jn h (fun v20_0 => [(0, vS p0), (1, vI i14_0), (30, vB v20_0)]) (fun v20_0 => []) (fun oJ21 h => ?_) fun v20_0 h => ?_
      ·refine AW.rp ?_
       refine sK h (fun hb22 h => ?_) fun hb22 h => ?_
       ·refine bb h fun c23 hx24 h => ?_
        exact ja [] h
       exact ja [] h
      refine AW.tt h (fun hb25 h => ?_) fun hb25 h => ?_
      ·refine AW.sk ?_
       exact jo [] h
      refine AW.ex ?_
      have h := up h hJ19
      exact ja [] h
     refine AW.block ?_
     refine AW.rp ?_
     exact na [] h
    exact na [] h
   refine AW.ro ?_
   refine AW.ret ?_
   have h := up h hJ4
   cases h; refine nz ?_; exact .same _
  refine AW.ex ?_
  exact jo [] h
 refine AW.kr [] [1] ?_
 refine AW.ret ?_
 cases h; refine nz ?_; exact .same _
/-! ### isochrone/text.digit -/
def text_digit (K : Nat) (p0 : Int) : Option Bool := if (decide ((48 : Int) ≤ p0)) then
  some (decide (p0 ≤ (57 : Int)))
 else
  some false
set_option maxHeartbeats 4000000 in
theorem text_digit_ok {K : Nat} {p0 : Int} {r : Bool} (h : text_digit K p0 = some r) : Cn Tryz.prog 137 [.d (.val (.int .u8 p0))] (.d (.val (.bool r))) := by
 refine Cn.oz Tryz.func137 Tryz.call137 Tryz.ntmps137 Tryz.results137 fun hfit => ?_
 unfold text_digit at h
 refine AW.kr [] [0] ?_
 refine AW.kr [] [0] ?_
 refine sK h (fun hb1 h => ?_) fun hb1 h => ?_
 ·refine AW.ret ?_
  cases h; refine nz ?_; exact .same _
 refine AW.ret ?_
 cases h; refine nz ?_; exact .same _
/-! ### isochrone/text.letter -/
def text_letter (K : Nat) (p0 : Int) : Option Bool := if (decide ((97 : Int) ≤ p0)) then
  if (decide (p0 ≤ (122 : Int))) then
   some true
  else
   if (decide ((65 : Int) ≤ p0)) then
    some (decide (p0 ≤ (90 : Int)))
   else
    some false
 else
  if (decide ((65 : Int) ≤ p0)) then
   some (decide (p0 ≤ (90 : Int)))
  else
   some false
set_option maxHeartbeats 4000000 in
theorem text_letter_ok {K : Nat} {p0 : Int} {r : Bool} (h : text_letter K p0 = some r) : Cn Tryz.prog 141 [.d (.val (.int .u8 p0))] (.d (.val (.bool r))) := by
 refine Cn.oz Tryz.func141 Tryz.call141 Tryz.ntmps141 Tryz.results141 fun hfit => ?_
 unfold text_letter at h
 refine AW.kr [] [0] ?_
 refine AW.kr [] [0] ?_
 refine sK h (fun hb1 h => ?_) fun hb1 h => ?_
 ·refine sK h (fun hb2 h => ?_) fun hb2 h => ?_
  ·refine AW.ret ?_
   cases h; refine nz ?_; exact .same _
  refine sK h (fun hb3 h => ?_) fun hb3 h => ?_
  ·refine AW.ret ?_
   cases h; refine nz ?_; exact .same _
  refine AW.ret ?_
  cases h; refine nz ?_; exact .same _
 refine sK h (fun hb4 h => ?_) fun hb4 h => ?_
 ·refine AW.ret ?_
  cases h; refine nz ?_; exact .same _
 refine AW.ret ?_
 cases h; refine nz ?_; exact .same _
/-! ### isochrone/text.token -/
def text_token (K : Nat) (p0 : ByteArray) (p1 : Int) : Option ByteArray := if (decide ((p0.size : Int) ≤ p1)) then
  some (⟨#[]⟩ : ByteArray)
 else
  ((
   (strAt p0 p1).bind fun c4 =>
   (text_letter K (c4.toNat : Int)).bind fun r6 =>
   if r6 then
    ((iter (S := Int) (R := Int) K (fun again i9_0 =>
     ((
      ((
       if (decide (i9_0 < (p0.size : Int))) then
        (strAt p0 i9_0).bind fun c18 =>
        (text_letter K (c18.toNat : Int)).bind fun r20 =>
        if r20 then
         some true
        else
         (text_digit K (c18.toNat : Int)).bind fun r23 =>
         some r23
       else
        some false) : Option Bool).bind (fun v15_0 =>
      if v15_0 then
       some (.go ())
      else
       outM (
        some i9_0))) : Option (Out Unit _)).bind (Out.fin fun _ =>
     again (IntKind.wrap .i64 (i9_0 + (1 : Int))))) p1) : Option Int).bind (fun e10_0 =>
    some (.go e10_0))
   else
    (text_digit K (c4.toNat : Int)).bind fun r26 =>
    if r26 then
     ((iter (S := Int) (R := Int) K (fun again i29_0 =>
      ((
       ((
        if (decide (i29_0 < (p0.size : Int))) then
         (strAt p0 i29_0).bind fun c38 =>
         (text_digit K (c38.toNat : Int)).bind fun r40 =>
         some r40
        else
         some false) : Option Bool).bind (fun v35_0 =>
       if v35_0 then
        some (.go ())
       else
        outM (
         some i29_0))) : Option (Out Unit _)).bind (Out.fin fun _ =>
      again (IntKind.wrap .i64 (i29_0 + (1 : Int))))) p1) : Option Int).bind (fun e30_0 =>
     some (.go e30_0))
    else
     (some [(⟨#[60, 45, 62]⟩ : ByteArray), (⟨#[60, 124]⟩ : ByteArray), (⟨#[124, 62]⟩ : ByteArray), (⟨#[60, 61]⟩ : ByteArray), (⟨#[62, 61]⟩ : ByteArray), (⟨#[33, 61]⟩ : ByteArray), (⟨#[45, 62]⟩ : ByteArray), (⟨#[58, 61]⟩ : ByteArray), (⟨#[43, 43]⟩ : ByteArray), (⟨#[46, 46]⟩ : ByteArray)]).bind fun l43 =>
     ((iter (S := Int) (R := Out Unit _) K (fun again i45_0 =>
      if (decide (i45_0 < ([(⟨#[60, 45, 62]⟩ : ByteArray), (⟨#[60, 124]⟩ : ByteArray), (⟨#[124, 62]⟩ : ByteArray), (⟨#[60, 61]⟩ : ByteArray), (⟨#[62, 61]⟩ : ByteArray), (⟨#[33, 61]⟩ : ByteArray), (⟨#[45, 62]⟩ : ByteArray), (⟨#[58, 61]⟩ : ByteArray), (⟨#[43, 43]⟩ : ByteArray), (⟨#[46, 46]⟩ : ByteArray)].length : Int))) then
       ((
        (idx l43 i45_0).bind fun x52 =>
        ((
         if (decide ((IntKind.wrap .i64 (p1 + (x52.size : Int))) ≤ (p0.size : Int))) then
          (cutStr p0 (some p1) (some (IntKind.wrap .i64 (p1 + (x52.size : Int))))).bind fun s57 =>
          some (s57.toList == x52.toList)
         else
          some false) : Option Bool).bind (fun v54_0 =>
        if v54_0 then
         outM (
          outM (
           outM (
            some x52)))
        else
         some (.go ()))) : Option (Out Unit _)).bind (Out.fin fun _ =>
       again (IntKind.wrap .i64 (i45_0 + (1 : Int))))
      else
       some (.go ())) (0 : Int)) : Option (Out Unit _)).bind (Out.fin fun _ =>
     (some [(40 : Int), (41 : Int), (91 : Int), (93 : Int), (123 : Int), (125 : Int), (43 : Int), (45 : Int), (42 : Int), (47 : Int), (94 : Int), (39 : Int), (61 : Int), (60 : Int), (62 : Int), (33 : Int), (38 : Int), (124 : Int), (44 : Int), (59 : Int), (63 : Int), (64 : Int), (95 : Int), (46 : Int)]).bind fun l60 =>
     ((iter (S := Int) (R := Out Unit _) K (fun again i62_0 =>
      if (decide (i62_0 < ([(40 : Int), (41 : Int), (91 : Int), (93 : Int), (123 : Int), (125 : Int), (43 : Int), (45 : Int), (42 : Int), (47 : Int), (94 : Int), (39 : Int), (61 : Int), (60 : Int), (62 : Int), (33 : Int), (38 : Int), (124 : Int), (44 : Int), (59 : Int), (63 : Int), (64 : Int), (95 : Int), (46 : Int)].length : Int))) then
       (idx l60 i62_0).bind fun x67 =>
       (strAt p0 p1).bind fun c69 =>
       if ((c69.toNat : Int) == x67) then
        (cutStr p0 (some p1) (some (IntKind.wrap .i64 (p1 + (1 : Int))))).bind fun s72 =>
        outM (
         outM (
          some s72))
       else
        again (IntKind.wrap .i64 (i62_0 + (1 : Int)))
      else
       some (.go ())) (0 : Int)) : Option (Out Unit _)).bind (Out.fin fun _ =>
     some (.go p1)))) : Option (Out Int _)).bind (Out.fin fun v2_0 =>
  (cutStr p0 (some p1) (some v2_0)).bind fun s74 =>
  some s74)
set_option maxHeartbeats 4000000 in
theorem text_token_ok {K : Nat} {p0 : ByteArray} {p1 : Int} {r : ByteArray} (h : text_token K p0 p1 = some r) : Cn Tryz.prog 116 [.d (.val (.string p0)), .d (.val (.int .i64 p1))] (.d (.val (.string r))) := by
 refine Cn.ofA mixed Tryz.func116 rfl Tryz.call116 Tryz.ntmps116 Tryz.results116 (by simp) (by simp only [go_sem, reduceEqDiff, reduceAdd, reduceSub, reduceMul, reduceLeDiff, reduceLT, Nat.reduceBEq, reduceIte]) fun hfit => ?_
 unfold text_token at h
 refine AW.kp [] [0, 1] ?_
 refine AW.op mixed ?_
 refine AW.kp [] [0, 1] ?_
 refine AW.one ?_
 refine AW.op mixed ?_
 refine AW.kp [] [0, 1, 13] ?_
 refine AW.ts (decide ((p0.size : Int) ≤ p1)) (fun hb1 => ?_) (fun hb1 => ?_)
 ·have h := ifT hb1 h
  refine AW.op mixed ?_
  refine AW.ret ?_
  obtain rfl := Option.some.inj h
  refine nz ?_
  exact .same _
 have h := ifF hb1 h
 refine AW.sk ?_
 refine AW.kp [] [0, 1] ?_
 refine AW.op mixed ?_
 refine AW.kp [] [0, 1, 5] ?_
 refine AW.one ?_
 refine obindE h fun oJ3 h hJ3 => ?_
 refine AW.join (S := Int) (fun v2_0 => [(0, .d (.val (.string p0))), (1, .d (.val (.int .i64 p1))), (5, .d (.val (.int .i64 v2_0)))]) (fun v2_0 => []) (fun x => oJ3 = .go x) ?_ ?_
 ·skip
  refine AW.block ?_
  refine AW.one ?_
  refine AW.reg mixed (by kernel_rfl) ?_
  apply obindE h; intro c4 hx5 h
  try simp only [go_sem, reduceEqDiff, reduceAdd, reduceSub, reduceMul, reduceLeDiff, reduceLT, Nat.reduceBEq, reduceIte, hx5]
  apply obindE h; intro r6 hx7 h
  have hc := nx (text_letter_ok (h := hx7))
  refine callK_pure hc (by simp only [go_sem, reduceEqDiff, reduceAdd, reduceSub, reduceMul, reduceLeDiff, reduceLT, Nat.reduceBEq, reduceIte]) ?_
  try simp only [go_sem, reduceEqDiff, reduceAdd, reduceSub, reduceMul, reduceLeDiff, reduceLT, Nat.reduceBEq, reduceIte, hx5]
  refine AW.cut [] [(0, .d (.val (.string p0))), (1, .d (.val (.int .i64 p1))), (5, .d (.val (.int .i64 p1))), (59, .d (.val (.bool r6)))] [] (by simp only [go_sem, reduceEqDiff, reduceAdd, reduceSub, reduceMul, reduceLeDiff, reduceLT, Nat.reduceBEq, reduceIte, hx5]) ?_
  refine AW.ts r6 (fun hb8 => ?_) (fun hb8 => ?_)
  ·have h := ifT hb8 h
   refine obindE h fun oJ12 h hJ12 => ?_
   refine AW.join (S := Int) (fun e10_0 => [(0, .d (.val (.string p0))), (1, .d (.val (.int .i64 p1))), (5, .d (.val (.int .i64 e10_0)))]) (fun e10_0 => []) (fun x => x = oJ12) ?_ ?_
   ·refine AW.block ?_
    refine AW.iter (S := Int) (fun i9_0 => [(0, .d (.val (.string p0))), (1, .d (.val (.int .i64 p1))), (5, .d (.val (.int .i64 i9_0)))]) (fun i9_0 => []) [] h (by simp only [go_sem, reduceEqDiff, reduceAdd, reduceSub, reduceMul, reduceLeDiff, reduceLT, Nat.reduceBEq, reduceIte]) ?_
    rintro again i9_0 h
    try dsimp only at h
    refine AW.one ?_
    refine obindE h fun oJ14 h hJ14 => ?_
    refine AW.join (S := Unit) (fun _ => [(0, .d (.val (.string p0))), (1, .d (.val (.int .i64 p1))), (5, .d (.val (.int .i64 i9_0)))]) (fun _ => []) (fun x => oJ14 = .go x) ?_ ?_
    ·skip
     refine AW.one ?_
     refine obindE h fun oJ16 h hJ16 => ?_
     refine AW.join (S := Bool) (fun v15_0 => [(0, .d (.val (.string p0))), (1, .d (.val (.int .i64 p1))), (5, .d (.val (.int .i64 i9_0))), (79, .d (.val (.bool v15_0)))]) (fun v15_0 => []) (fun x => x = oJ16) ?_ ?_
     ·skip
      refine AW.rg mixed ?_
      refine splitK_intro (fun hb17 => ?_) (fun hb17 => ?_)
      ·have h := ifT hb17 h
       apply obindE h; intro c18 hx19 h
       try simp only [go_sem, reduceEqDiff, reduceAdd, reduceSub, reduceMul, reduceLeDiff, reduceLT, Nat.reduceBEq, reduceIte, hb17, hx19]
       apply obindE h; intro r20 hx21 h
       have hc := nx (text_letter_ok (h := hx21))
       refine callK_pure hc (by simp only [go_sem, reduceEqDiff, reduceAdd, reduceSub, reduceMul, reduceLeDiff, reduceLT, Nat.reduceBEq, reduceIte]) ?_
       try simp only [go_sem, reduceEqDiff, reduceAdd, reduceSub, reduceMul, reduceLeDiff, reduceLT, Nat.reduceBEq, reduceIte, hb17, hx19]
       refine splitK_intro (fun hb22 => ?_) (fun hb22 => ?_)
       ·have h := ifT hb22 h
        try simp only [go_sem, reduceEqDiff, reduceAdd, reduceSub, reduceMul, reduceLeDiff, reduceLT, Nat.reduceBEq, reduceIte, hb17, hx19, hb22]
        refine JoinQ.mk true [] (Option.some.inj h) (by simp only [go_sem, reduceEqDiff, reduceAdd, reduceSub, reduceMul, reduceLeDiff, reduceLT, Nat.reduceBEq, reduceIte, hb17, hx19, hb22])
       have h := ifF hb22 h
       try simp only [go_sem, reduceEqDiff, reduceAdd, reduceSub, reduceMul, reduceLeDiff, reduceLT, Nat.reduceBEq, reduceIte, hb17, hx19, hb22]
       apply obindE h; intro r23 hx24 h
       have hc := nx (text_digit_ok (h := hx24))
       refine callK_pure hc (by simp only [go_sem, reduceEqDiff, reduceAdd, reduceSub, reduceMul, reduceLeDiff, reduceLT, Nat.reduceBEq, reduceIte]) ?_
       try simp only [go_sem, reduceEqDiff, reduceAdd, reduceSub, reduceMul, reduceLeDiff, reduceLT, Nat.reduceBEq, reduceIte, hb17, hx19, hb22]
       refine JoinQ.mk r23 [] (Option.some.inj h) (by simp only [go_sem, reduceEqDiff, reduceAdd, reduceSub, reduceMul, reduceLeDiff, reduceLT, Nat.reduceBEq, reduceIte, hb17, hx19, hb22])
      have h := ifF hb17 h
      try simp only [go_sem, reduceEqDiff, reduceAdd, reduceSub, reduceMul, reduceLeDiff, reduceLT, Nat.reduceBEq, reduceIte, hb17]
      refine JoinQ.mk false [] (Option.some.inj h) (by simp only [go_sem, reduceEqDiff, reduceAdd, reduceSub, reduceMul, reduceLeDiff, reduceLT, Nat.reduceBEq, reduceIte, hb17])
     rintro v15_0 rfl
     have h := hJ16
     try dsimp only [Out.fin] at h
     refine nz ?_
     refine AW.ts v15_0 (fun hb25 => ?_) (fun hb25 => ?_)
     ·have h := ifT hb25 h
      refine AW.sk ?_
      exact JoinQ.ar () [] (Option.some.inj h).symm
     have h := ifF hb25 h
     refine AW.ex ?_
     obtain ⟨_, h, ho⟩ := outM_some h
     rw [ho, Out.fin_out] at hJ14
     have h := h.trans hJ14
     exact JoinQ.ar i9_0 [] (Option.some.inj h)
    rintro ⟨⟩ rfl
    have h := hJ14
    try dsimp only [Out.fin] at h
    refine nz ?_
    refine AW.block ?_
    refine AW.rg mixed ?_
    exact NextQ.ar (IntKind.wrap .i64 (i9_0 + (1 : Int))) [] h
   rintro e10_0 rfl
   have h := hJ12
   try dsimp only [Out.fin] at h
   refine nz ?_
   exact JoinQ.ar e10_0 [] (Option.some.inj h).symm
  have h := ifF hb8 h
  refine AW.one ?_
  refine AW.reg mixed (by kernel_rfl) ?_
  try simp only [go_sem, reduceEqDiff, reduceAdd, reduceSub, reduceMul, reduceLeDiff, reduceLT, Nat.reduceBEq, reduceIte, hx5]
  apply obindE h; intro r26 hx27 h
  have hc := nx (text_digit_ok (h := hx27))
  refine callK_pure hc (by simp only [go_sem, reduceEqDiff, reduceAdd, reduceSub, reduceMul, reduceLeDiff, reduceLT, Nat.reduceBEq, reduceIte]) ?_
  try simp only [go_sem, reduceEqDiff, reduceAdd, reduceSub, reduceMul, reduceLeDiff, reduceLT, Nat.reduceBEq, reduceIte, hx5]
  refine AW.cut [] [(0, .d (.val (.string p0))), (1, .d (.val (.int .i64 p1))), (5, .d (.val (.int .i64 p1))), (82, .d (.val (.bool r26)))] [] (by simp only [go_sem, reduceEqDiff, reduceAdd, reduceSub, reduceMul, reduceLeDiff, reduceLT, Nat.reduceBEq, reduceIte, hx5]) ?_
  refine AW.ts r26 (fun hb28 => ?_) (fun hb28 => ?_)
  ·have h := ifT hb28 h
   refine obindE h fun oJ32 h hJ32 => ?_
   refine AW.join (S := Int) (fun e30_0 => [(0, .d (.val (.string p0))), (1, .d (.val (.int .i64 p1))), (5, .d (.val (.int .i64 e30_0)))]) (fun e30_0 => []) (fun x => x = oJ32) ?_ ?_
   ·refine AW.block ?_
    refine AW.iter (S := Int) (fun i29_0 => [(0, .d (.val (.string p0))), (1, .d (.val (.int .i64 p1))), (5, .d (.val (.int .i64 i29_0)))]) (fun i29_0 => []) [] h (by simp only [go_sem, reduceEqDiff, reduceAdd, reduceSub, reduceMul, reduceLeDiff, reduceLT, Nat.reduceBEq, reduceIte]) ?_
    rintro again i29_0 h
    try dsimp only at h
    refine AW.one ?_
    refine obindE h fun oJ34 h hJ34 => ?_
    refine AW.join (S := Unit) (fun _ => [(0, .d (.val (.string p0))), (1, .d (.val (.int .i64 p1))), (5, .d (.val (.int .i64 i29_0)))]) (fun _ => []) (fun x => oJ34 = .go x) ?_ ?_
    ·skip
     refine AW.one ?_
     refine obindE h fun oJ36 h hJ36 => ?_
     refine AW.join (S := Bool) (fun v35_0 => [(0, .d (.val (.string p0))), (1, .d (.val (.int .i64 p1))), (5, .d (.val (.int .i64 i29_0))), (96, .d (.val (.bool v35_0)))]) (fun v35_0 => []) (fun x => x = oJ36) ?_ ?_
     ·skip
      refine AW.rg mixed ?_
      refine splitK_intro (fun hb37 => ?_) (fun hb37 => ?_)
      ·have h := ifT hb37 h
       apply obindE h; intro c38 hx39 h
       try simp only [go_sem, reduceEqDiff, reduceAdd, reduceSub, reduceMul, reduceLeDiff, reduceLT, Nat.reduceBEq, reduceIte, hb37, hx39]
       apply obindE h; intro r40 hx41 h
       have hc := nx (text_digit_ok (h := hx41))
       refine callK_pure hc (by simp only [go_sem, reduceEqDiff, reduceAdd, reduceSub, reduceMul, reduceLeDiff, reduceLT, Nat.reduceBEq, reduceIte]) ?_
       try simp only [go_sem, reduceEqDiff, reduceAdd, reduceSub, reduceMul, reduceLeDiff, reduceLT, Nat.reduceBEq, reduceIte, hb37, hx39]
       refine JoinQ.mk r40 [] (Option.some.inj h) (by simp only [go_sem, reduceEqDiff, reduceAdd, reduceSub, reduceMul, reduceLeDiff, reduceLT, Nat.reduceBEq, reduceIte, hb37, hx39])
      have h := ifF hb37 h
      try simp only [go_sem, reduceEqDiff, reduceAdd, reduceSub, reduceMul, reduceLeDiff, reduceLT, Nat.reduceBEq, reduceIte, hb37]
      refine JoinQ.mk false [] (Option.some.inj h) (by simp only [go_sem, reduceEqDiff, reduceAdd, reduceSub, reduceMul, reduceLeDiff, reduceLT, Nat.reduceBEq, reduceIte, hb37])
     rintro v35_0 rfl
     have h := hJ36
     try dsimp only [Out.fin] at h
     refine nz ?_
     refine AW.ts v35_0 (fun hb42 => ?_) (fun hb42 => ?_)
     ·have h := ifT hb42 h
      refine AW.sk ?_
      exact JoinQ.ar () [] (Option.some.inj h).symm
     have h := ifF hb42 h
     refine AW.ex ?_
     obtain ⟨_, h, ho⟩ := outM_some h
     rw [ho, Out.fin_out] at hJ34
     have h := h.trans hJ34
     exact JoinQ.ar i29_0 [] (Option.some.inj h)
    rintro ⟨⟩ rfl
    have h := hJ34
    try dsimp only [Out.fin] at h
    refine nz ?_
    refine AW.block ?_
    refine AW.rg mixed ?_
    exact NextQ.ar (IntKind.wrap .i64 (i29_0 + (1 : Int))) [] h
   rintro e30_0 rfl
   have h := hJ32
   try dsimp only [Out.fin] at h
   refine nz ?_
   exact JoinQ.ar e30_0 [] (Option.some.inj h).symm
  have h := ifF hb28 h
  refine AW.one ?_
  refine AW.op mixed ?_
  apply obindE h; intro l43 hx44 h
  refine AW.cut [] [(0, .d (.val (.string p0))), (1, .d (.val (.int .i64 p1))), (5, .d (.val (.int .i64 p1))), (15, .d (slD strV l43)), (16, .d (.val (.int .i64 ([(⟨#[60, 45, 62]⟩ : ByteArray), (⟨#[60, 124]⟩ : ByteArray), (⟨#[124, 62]⟩ : ByteArray), (⟨#[60, 61]⟩ : ByteArray), (⟨#[62, 61]⟩ : ByteArray), (⟨#[33, 61]⟩ : ByteArray), (⟨#[45, 62]⟩ : ByteArray), (⟨#[58, 61]⟩ : ByteArray), (⟨#[43, 43]⟩ : ByteArray), (⟨#[46, 46]⟩ : ByteArray)].length : Int)))), (17, .d (.val (.int .i64 (0 : Int))))] [] (by simp only [go_sem, reduceEqDiff, reduceAdd, reduceSub, reduceMul, reduceLeDiff, reduceLT, Nat.reduceBEq, reduceIte, (Option.some.inj hx44).symm, slD]) ?_
  refine obindE h fun oJ48 h hJ48 => ?_
  refine AW.join (S := Unit) (fun _ => [(0, .d (.val (.string p0))), (1, .d (.val (.int .i64 p1))), (5, .d (.val (.int .i64 p1)))]) (fun _ => []) (fun x => oJ48 = .go x) ?_ ?_
  ·refine AW.block ?_
   refine AW.iter (S := Int) (fun i45_0 => [(0, .d (.val (.string p0))), (1, .d (.val (.int .i64 p1))), (5, .d (.val (.int .i64 p1))), (15, .d (slD strV l43)), (16, .d (.val (.int .i64 ([(⟨#[60, 45, 62]⟩ : ByteArray), (⟨#[60, 124]⟩ : ByteArray), (⟨#[124, 62]⟩ : ByteArray), (⟨#[60, 61]⟩ : ByteArray), (⟨#[62, 61]⟩ : ByteArray), (⟨#[33, 61]⟩ : ByteArray), (⟨#[45, 62]⟩ : ByteArray), (⟨#[58, 61]⟩ : ByteArray), (⟨#[43, 43]⟩ : ByteArray), (⟨#[46, 46]⟩ : ByteArray)].length : Int)))), (17, .d (.val (.int .i64 i45_0)))]) (fun i45_0 => []) [] h (by simp only [go_sem, reduceEqDiff, reduceAdd, reduceSub, reduceMul, reduceLeDiff, reduceLT, Nat.reduceBEq, reduceIte]) ?_
   rintro again i45_0 h
   try dsimp only at h
   refine AW.op mixed ?_
   refine AW.kp [] [0, 1, 5, 15, 16, 17, 18] ?_
   refine AW.one ?_
   refine AW.ts (decide (i45_0 < ([(⟨#[60, 45, 62]⟩ : ByteArray), (⟨#[60, 124]⟩ : ByteArray), (⟨#[124, 62]⟩ : ByteArray), (⟨#[60, 61]⟩ : ByteArray), (⟨#[62, 61]⟩ : ByteArray), (⟨#[33, 61]⟩ : ByteArray), (⟨#[45, 62]⟩ : ByteArray), (⟨#[58, 61]⟩ : ByteArray), (⟨#[43, 43]⟩ : ByteArray), (⟨#[46, 46]⟩ : ByteArray)].length : Int))) (fun hb49 => ?_) (fun hb49 => ?_)
   ·have h := ifT hb49 h
    refine AW.sk ?_
    refine AW.kp [] [0, 1, 5, 15, 16, 17] ?_
    refine AW.one ?_
    refine obindE h fun oJ51 h hJ51 => ?_
    refine AW.join (S := Unit) (fun _ => [(0, .d (.val (.string p0))), (1, .d (.val (.int .i64 p1))), (5, .d (.val (.int .i64 p1))), (15, .d (slD strV l43)), (16, .d (.val (.int .i64 ([(⟨#[60, 45, 62]⟩ : ByteArray), (⟨#[60, 124]⟩ : ByteArray), (⟨#[124, 62]⟩ : ByteArray), (⟨#[60, 61]⟩ : ByteArray), (⟨#[62, 61]⟩ : ByteArray), (⟨#[33, 61]⟩ : ByteArray), (⟨#[45, 62]⟩ : ByteArray), (⟨#[58, 61]⟩ : ByteArray), (⟨#[43, 43]⟩ : ByteArray), (⟨#[46, 46]⟩ : ByteArray)].length : Int)))), (17, .d (.val (.int .i64 i45_0)))]) (fun _ => []) (fun x => oJ51 = .go x) ?_ ?_
    ·skip
     refine AW.block ?_
     refine AW.one ?_
     refine AW.reg mixed (by kernel_rfl) ?_
     apply obindE h; intro x52 hx53 h
     try simp only [go_sem, reduceEqDiff, reduceAdd, reduceSub, reduceMul, reduceLeDiff, reduceLT, Nat.reduceBEq, reduceIte, (idx_some hx53).1, (idx_some hx53).2]
     refine AW.cut [] [(0, .d (.val (.string p0))), (1, .d (.val (.int .i64 p1))), (5, .d (.val (.int .i64 p1))), (7, .d (.val (.string x52))), (15, .d (slD strV l43)), (16, .d (.val (.int .i64 ([(⟨#[60, 45, 62]⟩ : ByteArray), (⟨#[60, 124]⟩ : ByteArray), (⟨#[124, 62]⟩ : ByteArray), (⟨#[60, 61]⟩ : ByteArray), (⟨#[62, 61]⟩ : ByteArray), (⟨#[33, 61]⟩ : ByteArray), (⟨#[45, 62]⟩ : ByteArray), (⟨#[58, 61]⟩ : ByteArray), (⟨#[43, 43]⟩ : ByteArray), (⟨#[46, 46]⟩ : ByteArray)].length : Int)))), (17, .d (.val (.int .i64 i45_0)))] [] (by simp only [go_sem, reduceEqDiff, reduceAdd, reduceSub, reduceMul, reduceLeDiff, reduceLT, Nat.reduceBEq, reduceIte, (idx_some hx53).1, (idx_some hx53).2]) ?_
     refine AW.one ?_
     refine obindE h fun oJ55 h hJ55 => ?_
     refine AW.join (S := Bool) (fun v54_0 => [(0, .d (.val (.string p0))), (1, .d (.val (.int .i64 p1))), (5, .d (.val (.int .i64 p1))), (7, .d (.val (.string x52))), (15, .d (slD strV l43)), (16, .d (.val (.int .i64 ([(⟨#[60, 45, 62]⟩ : ByteArray), (⟨#[60, 124]⟩ : ByteArray), (⟨#[124, 62]⟩ : ByteArray), (⟨#[60, 61]⟩ : ByteArray), (⟨#[62, 61]⟩ : ByteArray), (⟨#[33, 61]⟩ : ByteArray), (⟨#[45, 62]⟩ : ByteArray), (⟨#[58, 61]⟩ : ByteArray), (⟨#[43, 43]⟩ : ByteArray), (⟨#[46, 46]⟩ : ByteArray)].length : Int)))), (17, .d (.val (.int .i64 i45_0))), (38, .d (.val (.bool v54_0)))]) (fun v54_0 => []) (fun x => x = oJ55) ?_ ?_
     ·skip
      refine AW.rg mixed ?_
      refine splitK_intro (fun hb56 => ?_) (fun hb56 => ?_)
      ·have h := ifT hb56 h
       apply obindE h; intro s57 hx58 h
       try simp only [go_sem, reduceEqDiff, reduceAdd, reduceSub, reduceMul, reduceLeDiff, reduceLT, Nat.reduceBEq, reduceIte, hb56, hx58]
       refine JoinQ.mk (s57.toList == x52.toList) [] (Option.some.inj h) (by simp only [go_sem, reduceEqDiff, reduceAdd, reduceSub, reduceMul, reduceLeDiff, reduceLT, Nat.reduceBEq, reduceIte, hb56, hx58])
      have h := ifF hb56 h
      try simp only [go_sem, reduceEqDiff, reduceAdd, reduceSub, reduceMul, reduceLeDiff, reduceLT, Nat.reduceBEq, reduceIte, hb56]
      refine JoinQ.mk false [] (Option.some.inj h) (by simp only [go_sem, reduceEqDiff, reduceAdd, reduceSub, reduceMul, reduceLeDiff, reduceLT, Nat.reduceBEq, reduceIte, hb56])
     rintro v54_0 rfl
     have h := hJ55
     try dsimp only [Out.fin] at h
     refine nz ?_
     refine AW.ts v54_0 (fun hb59 => ?_) (fun hb59 => ?_)
     ·have h := ifT hb59 h
      refine AW.op mixed ?_
      refine AW.ret ?_
      obtain ⟨_, h, ho⟩ := outM_some h
      rw [ho, Out.fin_out] at hJ51
      have h := h.trans hJ51
      obtain ⟨_, h, ho⟩ := outM_some h
      rw [ho, Out.fin_out] at hJ48
      have h := h.trans hJ48
      obtain ⟨_, h, ho⟩ := outM_some h
      rw [ho, Out.fin_out] at hJ3
      have h := h.trans hJ3
      obtain rfl := Option.some.inj h
      refine nz ?_
      exact .same _
     have h := ifF hb59 h
     refine AW.sk ?_
     exact JoinQ.ar () [] (Option.some.inj h).symm
    rintro ⟨⟩ rfl
    have h := hJ51
    try dsimp only [Out.fin] at h
    refine nz ?_
    refine AW.rg mixed ?_
    exact NextQ.ar (IntKind.wrap .i64 (i45_0 + (1 : Int))) [] h
   have h := ifF hb49 h
   refine AW.ex ?_
   exact JoinQ.ar () [] (Option.some.inj h).symm
  rintro ⟨⟩ rfl
  have h := hJ48
  try dsimp only [Out.fin] at h
  refine nz ?_
  refine AW.kp [] [0, 1, 5] ?_
  refine AW.op mixed ?_
  refine frzX (f := (fun x : Int => [D.val (.int .u8 x)])) (l := [(40 : Int), (41 : Int), (91 : Int), (93 : Int), (123 : Int), (125 : Int), (43 : Int), (45 : Int), (42 : Int), (47 : Int), (94 : Int), (39 : Int), (61 : Int), (60 : Int), (62 : Int), (33 : Int), (38 : Int), (124 : Int), (44 : Int), (59 : Int), (63 : Int), (64 : Int), (95 : Int), (46 : Int)]) 0 el41 Tryz.underlying5 (by rfl) (by rfl) ?_
  try simp only [go_sem, reduceEqDiff, reduceAdd, reduceSub, reduceMul, reduceLeDiff, reduceLT, Nat.reduceBEq, reduceIte]
  apply obindE h; intro l60 hx61 h
  refine AW.cut [] [(0, .d (.val (.string p0))), (1, .d (.val (.int .i64 p1))), (5, .d (.val (.int .i64 p1))), (42, .d (slD (fun x : Int => [D.val (.int .u8 x)]) l60)), (43, .d (.val (.int .i64 ([(40 : Int), (41 : Int), (91 : Int), (93 : Int), (123 : Int), (125 : Int), (43 : Int), (45 : Int), (42 : Int), (47 : Int), (94 : Int), (39 : Int), (61 : Int), (60 : Int), (62 : Int), (33 : Int), (38 : Int), (124 : Int), (44 : Int), (59 : Int), (63 : Int), (64 : Int), (95 : Int), (46 : Int)].length : Int)))), (44, .d (.val (.int .i64 (0 : Int))))] [] (by simp only [go_sem, reduceEqDiff, reduceAdd, reduceSub, reduceMul, reduceLeDiff, reduceLT, Nat.reduceBEq, reduceIte, (Option.some.inj hx61).symm, slD]) ?_
  refine obindE h fun oJ65 h hJ65 => ?_
  refine AW.join (S := Unit) (fun _ => [(0, .d (.val (.string p0))), (1, .d (.val (.int .i64 p1))), (5, .d (.val (.int .i64 p1)))]) (fun _ => []) (fun x => oJ65 = .go x) ?_ ?_
  ·refine AW.block ?_
   refine AW.iter (S := Int) (fun i62_0 => [(0, .d (.val (.string p0))), (1, .d (.val (.int .i64 p1))), (5, .d (.val (.int .i64 p1))), (42, .d (slD (fun x : Int => [D.val (.int .u8 x)]) l60)), (43, .d (.val (.int .i64 ([(40 : Int), (41 : Int), (91 : Int), (93 : Int), (123 : Int), (125 : Int), (43 : Int), (45 : Int), (42 : Int), (47 : Int), (94 : Int), (39 : Int), (61 : Int), (60 : Int), (62 : Int), (33 : Int), (38 : Int), (124 : Int), (44 : Int), (59 : Int), (63 : Int), (64 : Int), (95 : Int), (46 : Int)].length : Int)))), (44, .d (.val (.int .i64 i62_0)))]) (fun i62_0 => []) [] h (by simp only [go_sem, reduceEqDiff, reduceAdd, reduceSub, reduceMul, reduceLeDiff, reduceLT, Nat.reduceBEq, reduceIte]) ?_
   rintro again i62_0 h
   try dsimp only at h
   refine AW.op mixed ?_
   refine AW.kp [] [0, 1, 5, 42, 43, 44, 45] ?_
   refine AW.one ?_
   refine AW.ts (decide (i62_0 < ([(40 : Int), (41 : Int), (91 : Int), (93 : Int), (123 : Int), (125 : Int), (43 : Int), (45 : Int), (42 : Int), (47 : Int), (94 : Int), (39 : Int), (61 : Int), (60 : Int), (62 : Int), (33 : Int), (38 : Int), (124 : Int), (44 : Int), (59 : Int), (63 : Int), (64 : Int), (95 : Int), (46 : Int)].length : Int))) (fun hb66 => ?_) (fun hb66 => ?_)
   ·have h := ifT hb66 h
    refine AW.sk ?_
    refine AW.kp [] [0, 1, 5, 42, 43, 44] ?_
    refine AW.one ?_
    refine AW.block ?_
    refine AW.one ?_
    refine AW.reg mixed (by kernel_rfl) ?_
    apply obindE h; intro x67 hx68 h
    try simp only [go_sem, reduceEqDiff, reduceAdd, reduceSub, reduceMul, reduceLeDiff, reduceLT, Nat.reduceBEq, reduceIte, (idx_some hx68).1, (idx_some hx68).2]
    refine AW.cut [] [(0, .d (.val (.string p0))), (1, .d (.val (.int .i64 p1))), (5, .d (.val (.int .i64 p1))), (9, .d (.val (.int .u8 x67))), (42, .d (slD (fun x : Int => [D.val (.int .u8 x)]) l60)), (43, .d (.val (.int .i64 ([(40 : Int), (41 : Int), (91 : Int), (93 : Int), (123 : Int), (125 : Int), (43 : Int), (45 : Int), (42 : Int), (47 : Int), (94 : Int), (39 : Int), (61 : Int), (60 : Int), (62 : Int), (33 : Int), (38 : Int), (124 : Int), (44 : Int), (59 : Int), (63 : Int), (64 : Int), (95 : Int), (46 : Int)].length : Int)))), (44, .d (.val (.int .i64 i62_0)))] [] (by simp only [go_sem, reduceEqDiff, reduceAdd, reduceSub, reduceMul, reduceLeDiff, reduceLT, Nat.reduceBEq, reduceIte, (idx_some hx68).1, (idx_some hx68).2]) ?_
    refine AW.one ?_
    refine AW.reg mixed (by kernel_rfl) ?_
    apply obindE h; intro c69 hx70 h
    try simp only [go_sem, reduceEqDiff, reduceAdd, reduceSub, reduceMul, reduceLeDiff, reduceLT, Nat.reduceBEq, reduceIte, hx70]
    refine AW.cut [] [(0, .d (.val (.string p0))), (1, .d (.val (.int .i64 p1))), (5, .d (.val (.int .i64 p1))), (42, .d (slD (fun x : Int => [D.val (.int .u8 x)]) l60)), (43, .d (.val (.int .i64 ([(40 : Int), (41 : Int), (91 : Int), (93 : Int), (123 : Int), (125 : Int), (43 : Int), (45 : Int), (42 : Int), (47 : Int), (94 : Int), (39 : Int), (61 : Int), (60 : Int), (62 : Int), (33 : Int), (38 : Int), (124 : Int), (44 : Int), (59 : Int), (63 : Int), (64 : Int), (95 : Int), (46 : Int)].length : Int)))), (44, .d (.val (.int .i64 i62_0))), (52, .d (.val (.bool ((c69.toNat : Int) == x67))))] [] (by simp only [go_sem, reduceEqDiff, reduceAdd, reduceSub, reduceMul, reduceLeDiff, reduceLT, Nat.reduceBEq, reduceIte, hx70]) ?_
    refine AW.ts ((c69.toNat : Int) == x67) (fun hb71 => ?_) (fun hb71 => ?_)
    ·have h := ifT hb71 h
     refine AW.one ?_
     refine AW.reg mixed (by kernel_rfl) ?_
     apply obindE h; intro s72 hx73 h
     try simp only [go_sem, reduceEqDiff, reduceAdd, reduceSub, reduceMul, reduceLeDiff, reduceLT, Nat.reduceBEq, reduceIte, hx73]
     refine AW.ret ?_
     obtain ⟨_, h, ho⟩ := outM_some h
     rw [ho, Out.fin_out] at hJ65
     have h := h.trans hJ65
     obtain ⟨_, h, ho⟩ := outM_some h
     rw [ho, Out.fin_out] at hJ3
     have h := h.trans hJ3
     obtain rfl := Option.some.inj h
     refine nz ?_
     exact .same _
    have h := ifF hb71 h
    refine AW.sk ?_
    refine AW.kp [] [0, 1, 5, 42, 43, 44] ?_
    refine AW.rg mixed ?_
    exact NextQ.ar (IntKind.wrap .i64 (i62_0 + (1 : Int))) [] h
   have h := ifF hb66 h
   refine AW.ex ?_
   exact JoinQ.ar () [] (Option.some.inj h).symm
  rintro ⟨⟩ rfl
  have h := hJ65
  try dsimp only [Out.fin] at h
  refine nz ?_
  exact JoinQ.ar p1 [] (Option.some.inj h).symm
 rintro v2_0 rfl
 have h := hJ3
 try dsimp only [Out.fin] at h
 refine nz ?_
 refine AW.one ?_
 refine AW.reg mixed (by kernel_rfl) ?_
 apply obindE h; intro s74 hx75 h
 try simp only [go_sem, reduceEqDiff, reduceAdd, reduceSub, reduceMul, reduceLeDiff, reduceLT, Nat.reduceBEq, reduceIte, hx75]
 refine AW.ret ?_
 obtain rfl := Option.some.inj h
 refine nz ?_
 exact .same _
end Go.Proofs.YtemjeommnpocnaaGreat
