/- Part of the proof of a law: contracts of the functions that the law reaches, or plain laws of them, out of the abstract layer (the texts YtngmfimpaembnaaGreatDoorIso..). No condition. -/
import Derived.Test.YtngmfimpaembnaaGreatDoorW
import Derived.Test.YtngmfimpaembnaaGreatDoorIsoI
import Derived.Test.YtngmfimpaembnaaGreatDoorLman
import Derived.Test.YtngmfimpaembnaaGreatDoorShelf
import Derived.Test.YtngmfimpaembnaaGreatDoorIsoU
import Derived.Test.YtngmfimpaembnaaGreatDoorIsoQ
import Derived.Test.YtngmfimpaembnaaGreatDoorPb
open Nat (reduceEqDiff reduceAdd reduceSub reduceMul reduceLeDiff reduceLT)
namespace Go.Proofs.YtngmfimpaembnaaGreatDoor
open Go Go.Iso Go.Proofs
set_option linter.unusedSimpArgs false
set_option linter.unusedVariables false
set_option maxRecDepth 100000
/-! ### isochrone/isochroneref08.Name -/
def r08_Name (K : Nat) (p0 : ByteArray) : Option Bool := ((
    ((
      if ((p0.size : Int) == (0 : Int)) then
        some true
      else
        if (decide ((12 : Int) < (p0.size : Int))) then
          some true
        else
          if (p0.toList == (⟨#[116, 114, 117, 101]⟩ : ByteArray).toList) then
            some true
          else
            if (p0.toList == (⟨#[102, 97, 108, 115, 101]⟩ : ByteArray).toList) then
              some true
            else
              if (p0.toList == (⟨#[102, 111, 114, 97, 108, 108]⟩ : ByteArray).toList) then
                some true
              else
                some (p0.toList == (⟨#[101, 120, 105, 115, 116, 115]⟩ : ByteArray).toList)) : Option Bool).bind (fun v3_0 => 
    if v3_0 then
      outM (
        some false)
    else
      some (.go ()))) : Option (Out Unit _)).bind (Out.fin fun _ => 
  ((iter (S := Int) (R := Out Unit _) K (fun again i11_0 => 
    if (decide (i11_0 < (p0.size : Int))) then
      ((
        ((
          (strAt p0 i11_0).bind fun c20 => 
          (r08_letter K (c20.toNat : Int)).bind fun r22 => 
          if (!r22) then
            if (i11_0 == (0 : Int)) then
              some true
            else
              if (decide ((c20.toNat : Int) < (48 : Int))) then
                some true
              else
                some (decide ((57 : Int) < (c20.toNat : Int)))
          else
            some false) : Option Bool).bind (fun v18_0 => 
        if v18_0 then
          outM (
            outM (
              some false))
        else
          some (.go ()))) : Option (Out Unit _)).bind (Out.fin fun _ => 
      again (IntKind.wrap .i64 (i11_0 + (1 : Int))))
    else
      some (.go ())) (0 : Int)) : Option (Out Unit _)).bind (Out.fin fun _ => 
  some true))
set_option maxHeartbeats 4000000 in
theorem r08_Name_ok {K : Nat} {p0 : ByteArray} {r : Bool} (h : r08_Name K p0 = some r) : Cn Tryz.prog 36 [.d (.val (.string p0))] (.d (.val (.bool r))) := by
  refine Cn.ofA mixed Tryz.func36 rfl Tryz.call36 Tryz.ntmps36 Tryz.results36 (by simp) (by simp only [go_sem, reduceEqDiff, reduceAdd, reduceSub, reduceMul, reduceLeDiff, reduceLT, Nat.reduceBEq, reduceIte]) fun hfit => ?_
  unfold r08_Name at h
  refine AW.kp [] [0] ?_
  refine AW.op mixed ?_
  refine AW.kp [] [0] ?_
  refine AW.one ?_
  refine obindE h fun oJ2 h hJ2 => ?_
  refine AW.join (S := Unit) (fun _ => [(0, .d (.val (.string p0)))]) (fun _ => []) (fun x => oJ2 = .go x) ?_ ?_
  · skip
    refine AW.one ?_
    refine obindE h fun oJ4 h hJ4 => ?_
    refine AW.join (S := Bool) (fun v3_0 => [(0, .d (.val (.string p0))), (27, .d (.val (.bool v3_0)))]) (fun v3_0 => []) (fun x => x = oJ4) ?_ ?_
    · skip
      refine AW.rg mixed ?_
      refine splitK_intro (fun hb5 => ?_) (fun hb5 => ?_)
      · have h := ifT hb5 h
        try simp only [go_sem, reduceEqDiff, reduceAdd, reduceSub, reduceMul, reduceLeDiff, reduceLT, Nat.reduceBEq, reduceIte, hb5]
        refine JoinQ.mk true [] (Option.some.inj h) (by simp only [go_sem, reduceEqDiff, reduceAdd, reduceSub, reduceMul, reduceLeDiff, reduceLT, Nat.reduceBEq, reduceIte, hb5])
      have h := ifF hb5 h
      try simp only [go_sem, reduceEqDiff, reduceAdd, reduceSub, reduceMul, reduceLeDiff, reduceLT, Nat.reduceBEq, reduceIte, hb5]
      refine splitK_intro (fun hb6 => ?_) (fun hb6 => ?_)
      · have h := ifT hb6 h
        try simp only [go_sem, reduceEqDiff, reduceAdd, reduceSub, reduceMul, reduceLeDiff, reduceLT, Nat.reduceBEq, reduceIte, hb5, hb6]
        refine JoinQ.mk true [] (Option.some.inj h) (by simp only [go_sem, reduceEqDiff, reduceAdd, reduceSub, reduceMul, reduceLeDiff, reduceLT, Nat.reduceBEq, reduceIte, hb5, hb6])
      have h := ifF hb6 h
      try simp only [go_sem, reduceEqDiff, reduceAdd, reduceSub, reduceMul, reduceLeDiff, reduceLT, Nat.reduceBEq, reduceIte, hb5, hb6]
      refine splitK_intro (fun hb7 => ?_) (fun hb7 => ?_)
      · have h := ifT hb7 h
        try simp only [go_sem, reduceEqDiff, reduceAdd, reduceSub, reduceMul, reduceLeDiff, reduceLT, Nat.reduceBEq, reduceIte, hb5, hb6, hb7]
        refine JoinQ.mk true [] (Option.some.inj h) (by simp only [go_sem, reduceEqDiff, reduceAdd, reduceSub, reduceMul, reduceLeDiff, reduceLT, Nat.reduceBEq, reduceIte, hb5, hb6, hb7])
      have h := ifF hb7 h
      try simp only [go_sem, reduceEqDiff, reduceAdd, reduceSub, reduceMul, reduceLeDiff, reduceLT, Nat.reduceBEq, reduceIte, hb5, hb6, hb7]
      refine splitK_intro (fun hb8 => ?_) (fun hb8 => ?_)
      · have h := ifT hb8 h
        try simp only [go_sem, reduceEqDiff, reduceAdd, reduceSub, reduceMul, reduceLeDiff, reduceLT, Nat.reduceBEq, reduceIte, hb5, hb6, hb7, hb8]
        refine JoinQ.mk true [] (Option.some.inj h) (by simp only [go_sem, reduceEqDiff, reduceAdd, reduceSub, reduceMul, reduceLeDiff, reduceLT, Nat.reduceBEq, reduceIte, hb5, hb6, hb7, hb8])
      have h := ifF hb8 h
      try simp only [go_sem, reduceEqDiff, reduceAdd, reduceSub, reduceMul, reduceLeDiff, reduceLT, Nat.reduceBEq, reduceIte, hb5, hb6, hb7, hb8]
      refine splitK_intro (fun hb9 => ?_) (fun hb9 => ?_)
      · have h := ifT hb9 h
        try simp only [go_sem, reduceEqDiff, reduceAdd, reduceSub, reduceMul, reduceLeDiff, reduceLT, Nat.reduceBEq, reduceIte, hb5, hb6, hb7, hb8, hb9]
        refine JoinQ.mk true [] (Option.some.inj h) (by simp only [go_sem, reduceEqDiff, reduceAdd, reduceSub, reduceMul, reduceLeDiff, reduceLT, Nat.reduceBEq, reduceIte, hb5, hb6, hb7, hb8, hb9])
      have h := ifF hb9 h
      try simp only [go_sem, reduceEqDiff, reduceAdd, reduceSub, reduceMul, reduceLeDiff, reduceLT, Nat.reduceBEq, reduceIte, hb5, hb6, hb7, hb8, hb9]
      refine JoinQ.mk (p0.toList == (⟨#[101, 120, 105, 115, 116, 115]⟩ : ByteArray).toList) [] (Option.some.inj h) (by simp only [go_sem, reduceEqDiff, reduceAdd, reduceSub, reduceMul, reduceLeDiff, reduceLT, Nat.reduceBEq, reduceIte, hb5, hb6, hb7, hb8, hb9])
    rintro v3_0 rfl
    have h := hJ4
    try dsimp only [Out.fin] at h
    refine nz ?_
    refine AW.ts v3_0 (fun hb10 => ?_) (fun hb10 => ?_)
    · have h := ifT hb10 h
      refine AW.op mixed ?_
      refine AW.ret ?_
      obtain ⟨_, h, ho⟩ := outM_some h
      rw [ho, Out.fin_out] at hJ2
      have h := h.trans hJ2
      obtain rfl := Option.some.inj h
      refine nz ?_
      exact .same _
    have h := ifF hb10 h
    refine AW.sk ?_
    exact JoinQ.ar () [] (Option.some.inj h).symm
  rintro ⟨⟩ rfl
  have h := hJ2
  try dsimp only [Out.fin] at h
  refine nz ?_
  refine AW.one ?_
  refine AW.op mixed ?_
  refine AW.kp [] [0, 3] ?_
  refine obindE h fun oJ14 h hJ14 => ?_
  refine AW.join (S := Unit) (fun _ => []) (fun _ => []) (fun x => oJ14 = .go x) ?_ ?_
  · refine AW.block ?_
    refine AW.iter (S := Int) (fun i11_0 => [(0, .d (.val (.string p0))), (3, .d (.val (.int .i64 i11_0)))]) (fun i11_0 => []) [] h (by simp only [go_sem, reduceEqDiff, reduceAdd, reduceSub, reduceMul, reduceLeDiff, reduceLT, Nat.reduceBEq, reduceIte]) ?_
    rintro again i11_0 h
    try dsimp only at h
    refine AW.one ?_
    refine AW.op mixed ?_
    refine AW.kp [] [0, 3, 31] ?_
    refine AW.ts (decide (i11_0 < (p0.size : Int))) (fun hb15 => ?_) (fun hb15 => ?_)
    · have h := ifT hb15 h
      refine AW.sk ?_
      refine AW.kp [] [0, 3] ?_
      refine AW.one ?_
      refine obindE h fun oJ17 h hJ17 => ?_
      refine AW.join (S := Unit) (fun _ => [(0, .d (.val (.string p0))), (3, .d (.val (.int .i64 i11_0)))]) (fun _ => []) (fun x => oJ17 = .go x) ?_ ?_
      · skip
        refine AW.block ?_
        refine AW.one ?_
        refine obindE h fun oJ19 h hJ19 => ?_
        refine AW.join (S := Bool) (fun v18_0 => [(0, .d (.val (.string p0))), (3, .d (.val (.int .i64 i11_0))), (54, .d (.val (.bool v18_0)))]) (fun v18_0 => []) (fun x => x = oJ19) ?_ ?_
        · skip
          refine AW.reg mixed (by kernel_rfl) ?_
          apply obindE h; intro c20 hx21 h
          try simp only [go_sem, reduceEqDiff, reduceAdd, reduceSub, reduceMul, reduceLeDiff, reduceLT, Nat.reduceBEq, reduceIte, hx21]
          apply obindE h; intro r22 hx23 h
          have hc := nx (r08_letter_ok (h := hx23))
          refine callK_pure hc (by simp only [go_sem, reduceEqDiff, reduceAdd, reduceSub, reduceMul, reduceLeDiff, reduceLT, Nat.reduceBEq, reduceIte]) ?_
          try simp only [go_sem, reduceEqDiff, reduceAdd, reduceSub, reduceMul, reduceLeDiff, reduceLT, Nat.reduceBEq, reduceIte, hx21]
          refine splitK_intro (fun hb24 => ?_) (fun hb24 => ?_)
          · have h := ifT hb24 h
            try simp only [go_sem, reduceEqDiff, reduceAdd, reduceSub, reduceMul, reduceLeDiff, reduceLT, Nat.reduceBEq, reduceIte, hx21, hb24]
            refine splitK_intro (fun hb25 => ?_) (fun hb25 => ?_)
            · have h := ifT hb25 h
              try simp only [go_sem, reduceEqDiff, reduceAdd, reduceSub, reduceMul, reduceLeDiff, reduceLT, Nat.reduceBEq, reduceIte, hx21, hb24, hb25]
              refine JoinQ.mk true [] (Option.some.inj h) (by simp only [go_sem, reduceEqDiff, reduceAdd, reduceSub, reduceMul, reduceLeDiff, reduceLT, Nat.reduceBEq, reduceIte, hx21, hb24, hb25])
            have h := ifF hb25 h
            try simp only [go_sem, reduceEqDiff, reduceAdd, reduceSub, reduceMul, reduceLeDiff, reduceLT, Nat.reduceBEq, reduceIte, hx21, hb24, hb25]
            refine splitK_intro (fun hb26 => ?_) (fun hb26 => ?_)
            · have h := ifT hb26 h
              try simp only [go_sem, reduceEqDiff, reduceAdd, reduceSub, reduceMul, reduceLeDiff, reduceLT, Nat.reduceBEq, reduceIte, hx21, hb24, hb25, hb26]
              refine JoinQ.mk true [] (Option.some.inj h) (by simp only [go_sem, reduceEqDiff, reduceAdd, reduceSub, reduceMul, reduceLeDiff, reduceLT, Nat.reduceBEq, reduceIte, hx21, hb24, hb25, hb26])
            have h := ifF hb26 h
            try simp only [go_sem, reduceEqDiff, reduceAdd, reduceSub, reduceMul, reduceLeDiff, reduceLT, Nat.reduceBEq, reduceIte, hx21, hb24, hb25, hb26]
            refine JoinQ.mk (decide ((57 : Int) < (c20.toNat : Int))) [] (Option.some.inj h) (by simp only [go_sem, reduceEqDiff, reduceAdd, reduceSub, reduceMul, reduceLeDiff, reduceLT, Nat.reduceBEq, reduceIte, hx21, hb24, hb25, hb26])
          have h := ifF hb24 h
          try simp only [go_sem, reduceEqDiff, reduceAdd, reduceSub, reduceMul, reduceLeDiff, reduceLT, Nat.reduceBEq, reduceIte, hx21, hb24]
          refine JoinQ.mk false [] (Option.some.inj h) (by simp only [go_sem, reduceEqDiff, reduceAdd, reduceSub, reduceMul, reduceLeDiff, reduceLT, Nat.reduceBEq, reduceIte, hx21, hb24])
        rintro v18_0 rfl
        have h := hJ19
        try dsimp only [Out.fin] at h
        refine nz ?_
        refine AW.ts v18_0 (fun hb27 => ?_) (fun hb27 => ?_)
        · have h := ifT hb27 h
          refine AW.op mixed ?_
          refine AW.ret ?_
          obtain ⟨_, h, ho⟩ := outM_some h
          rw [ho, Out.fin_out] at hJ17
          have h := h.trans hJ17
          obtain ⟨_, h, ho⟩ := outM_some h
          rw [ho, Out.fin_out] at hJ14
          have h := h.trans hJ14
          obtain rfl := Option.some.inj h
          refine nz ?_
          exact .same _
        have h := ifF hb27 h
        refine AW.sk ?_
        exact JoinQ.ar () [] (Option.some.inj h).symm
      rintro ⟨⟩ rfl
      have h := hJ17
      try dsimp only [Out.fin] at h
      refine nz ?_
      refine AW.rg mixed ?_
      exact NextQ.ar (IntKind.wrap .i64 (i11_0 + (1 : Int))) [] h
    have h := ifF hb15 h
    refine AW.ex ?_
    exact JoinQ.ar () [] (Option.some.inj h).symm
  rintro ⟨⟩ rfl
  have h := hJ14
  try dsimp only [Out.fin] at h
  refine nz ?_
  refine AW.kp [] [] ?_
  refine AW.op mixed ?_
  refine AW.ret ?_
  obtain rfl := Option.some.inj h
  refine nz ?_
  exact .same _
/-! ### isochrone/isochroneref10.Variable -/
def r10_Variable (K : Nat) (p0 : ByteArray) : Option Bool := ((
    ((
      if (decide ((0 : Int) < (p0.size : Int))) then
        (strAt p0 (IntKind.wrap .i64 ((p0.size : Int) - (1 : Int)))).bind fun c6 => 
        some ((c6.toNat : Int) == (39 : Int))
      else
        some false) : Option Bool).bind (fun v3_0 => 
    if v3_0 then
      (cutStr p0 none (some (IntKind.wrap .i64 ((p0.size : Int) - (1 : Int))))).bind fun s9 => 
      some s9
    else
      some p0)) : Option ByteArray).bind (fun v1_0 => 
  (r08_Name K v1_0).bind fun r11 => 
  some r11)
set_option maxHeartbeats 4000000 in
theorem r10_Variable_ok {K : Nat} {p0 : ByteArray} {r : Bool} (h : r10_Variable K p0 = some r) : Cn Tryz.prog 107 [.d (.val (.string p0))] (.d (.val (.bool r))) := by
  refine Cn.ofA mixed Tryz.func107 rfl Tryz.call107 Tryz.ntmps107 Tryz.results107 (by simp) (by simp only [go_sem, reduceEqDiff, reduceAdd, reduceSub, reduceMul, reduceLeDiff, reduceLT, Nat.reduceBEq, reduceIte]) fun hfit => ?_
  unfold r10_Variable at h
  refine AW.kp [] [0] ?_
  refine AW.op mixed ?_
  refine AW.kp [] [0] ?_
  refine AW.one ?_
  refine obindE h fun oJ2 h hJ2 => ?_
  refine AW.join (S := ByteArray) (fun v1_0 => [(0, .d (.val (.string v1_0)))]) (fun v1_0 => []) (fun x => x = oJ2) ?_ ?_
  · skip
    refine AW.one ?_
    refine obindE h fun oJ4 h hJ4 => ?_
    refine AW.join (S := Bool) (fun v3_0 => [(0, .d (.val (.string p0))), (13, .d (.val (.bool v3_0)))]) (fun v3_0 => []) (fun x => x = oJ4) ?_ ?_
    · skip
      refine AW.rg mixed ?_
      refine splitK_intro (fun hb5 => ?_) (fun hb5 => ?_)
      · have h := ifT hb5 h
        apply obindE h; intro c6 hx7 h
        try simp only [go_sem, reduceEqDiff, reduceAdd, reduceSub, reduceMul, reduceLeDiff, reduceLT, Nat.reduceBEq, reduceIte, hb5, hx7]
        refine JoinQ.mk ((c6.toNat : Int) == (39 : Int)) [] (Option.some.inj h) (by simp only [go_sem, reduceEqDiff, reduceAdd, reduceSub, reduceMul, reduceLeDiff, reduceLT, Nat.reduceBEq, reduceIte, hb5, hx7])
      have h := ifF hb5 h
      try simp only [go_sem, reduceEqDiff, reduceAdd, reduceSub, reduceMul, reduceLeDiff, reduceLT, Nat.reduceBEq, reduceIte, hb5]
      refine JoinQ.mk false [] (Option.some.inj h) (by simp only [go_sem, reduceEqDiff, reduceAdd, reduceSub, reduceMul, reduceLeDiff, reduceLT, Nat.reduceBEq, reduceIte, hb5])
    rintro v3_0 rfl
    have h := hJ4
    try dsimp only [Out.fin] at h
    refine nz ?_
    refine AW.ts v3_0 (fun hb8 => ?_) (fun hb8 => ?_)
    · have h := ifT hb8 h
      refine AW.reg mixed (by kernel_rfl) ?_
      apply obindE h; intro s9 hx10 h
      try simp only [go_sem, reduceEqDiff, reduceAdd, reduceSub, reduceMul, reduceLeDiff, reduceLT, Nat.reduceBEq, reduceIte, hx10]
      refine JoinQ.mk s9 [] (Option.some.inj h) (by simp only [go_sem, reduceEqDiff, reduceAdd, reduceSub, reduceMul, reduceLeDiff, reduceLT, Nat.reduceBEq, reduceIte, hx10])
    have h := ifF hb8 h
    refine AW.sk ?_
    exact JoinQ.ar p0 [] (Option.some.inj h)
  rintro v1_0 rfl
  have h := hJ2
  try dsimp only [Out.fin] at h
  refine nz ?_
  refine AW.op mixed ?_
  apply obindE h; intro r11 hx12 h
  have hc := nx (r08_Name_ok (h := hx12))
  refine callP hc ?_
  refine AW.ret ?_
  obtain rfl := Option.some.inj h
  refine nz ?_
  exact .same _
/-! ### isochrone/isochroneref10.Valid -/
def r10_Valid (K : Nat) (p0 : Api_NamesA) : Option Bool := ((iter (S := Int) (R := Out Unit _) K (fun again i1_0 => 
    if (decide (i1_0 < (p0.list.length : Int))) then
      ((
        ((
          (idx p0.list i1_0).bind fun x10 => 
          (r10_Variable K x10).bind fun r12 => 
          if (!r12) then
            some true
          else
            if (decide ((0 : Int) < i1_0)) then
              (idx p0.list (IntKind.wrap .i64 (i1_0 - (1 : Int)))).bind fun x16 => 
              some (!Op.bytesLess x16.toList x10.toList)
            else
              some false) : Option Bool).bind (fun v8_0 => 
        if v8_0 then
          outM (
            outM (
              some false))
        else
          some (.go ()))) : Option (Out Unit _)).bind (Out.fin fun _ => 
      again (IntKind.wrap .i64 (i1_0 + (1 : Int))))
    else
      some (.go ())) (0 : Int)) : Option (Out Unit _)).bind (Out.fin fun _ => 
  some true)
set_option maxHeartbeats 4000000 in
theorem r10_Valid_ok {K : Nat} {p0 : Api_NamesA} {r : Bool} (h : r10_Valid K p0 = some r) : Cn Tryz.prog 87 [aggV p0.enc] (.d (.val (.bool r))) := by
  refine Cn.ofA mixed Tryz.func87 rfl Tryz.call87 Tryz.ntmps87 Tryz.results87 (by simp) (by simp only [go_sem, reduceEqDiff, reduceAdd, reduceSub, reduceMul, reduceLeDiff, reduceLT, Nat.reduceBEq, reduceIte]) fun hfit => ?_
  unfold r10_Valid at h
  refine AW.kp [] [0] ?_
  refine AW.op mixed ?_
  refine AW.kp [0] [1] ?_
  refine AW.one ?_
  refine AW.op mixed ?_
  refine AW.kp [0] [1, 3] ?_
  refine obindE h fun oJ4 h hJ4 => ?_
  refine AW.join (S := Unit) (fun _ => []) (fun _ => []) (fun x => oJ4 = .go x) ?_ ?_
  · refine AW.block ?_
    refine AW.iter (S := Int) (fun i1_0 => [(1, .ptr 0 2 0 0), (3, .d (.val (.int .i64 i1_0)))]) (fun i1_0 => [some ⟨2, [[.d (.val (.bool p0.all)), .d (slD strV p0.list)]]⟩]) [0] h (by simp only [go_sem, reduceEqDiff, reduceAdd, reduceSub, reduceMul, reduceLeDiff, reduceLT, Nat.reduceBEq, reduceIte]) ?_
    rintro again i1_0 h
    try dsimp only at h
    refine AW.one ?_
    refine AW.op mixed ?_
    refine AW.kp [0] [1, 3, 8] ?_
    refine AW.ts (decide (i1_0 < (p0.list.length : Int))) (fun hb5 => ?_) (fun hb5 => ?_)
    · have h := ifT hb5 h
      refine AW.sk ?_
      refine AW.kp [0] [1, 3] ?_
      refine AW.one ?_
      refine obindE h fun oJ7 h hJ7 => ?_
      refine AW.join (S := Unit) (fun _ => [(1, .ptr 0 2 0 0), (3, .d (.val (.int .i64 i1_0)))]) (fun _ => [some ⟨2, [[.d (.val (.bool p0.all)), .d (slD strV p0.list)]]⟩]) (fun x => oJ7 = .go x) ?_ ?_
      · skip
        refine AW.block ?_
        refine AW.one ?_
        refine obindE h fun oJ9 h hJ9 => ?_
        refine AW.join (S := Bool) (fun v8_0 => [(1, .ptr 0 2 0 0), (3, .d (.val (.int .i64 i1_0))), (35, .d (.val (.bool v8_0)))]) (fun v8_0 => [some ⟨2, [[.d (.val (.bool p0.all)), .d (slD strV p0.list)]]⟩]) (fun x => x = oJ9) ?_ ?_
        · skip
          refine AW.reg mixed (by kernel_rfl) ?_
          apply obindE h; intro x10 hx11 h
          try simp only [go_sem, reduceEqDiff, reduceAdd, reduceSub, reduceMul, reduceLeDiff, reduceLT, Nat.reduceBEq, reduceIte, (idx_some hx11).1, (idx_some hx11).2]
          apply obindE h; intro r12 hx13 h
          have hc := nx (r10_Variable_ok (h := hx13))
          refine pcallK_intro hc (by simp only [go_sem, reduceEqDiff, reduceAdd, reduceSub, reduceMul, reduceLeDiff, reduceLT, Nat.reduceBEq, reduceIte]) ?_
          try simp only [go_sem, reduceEqDiff, reduceAdd, reduceSub, reduceMul, reduceLeDiff, reduceLT, Nat.reduceBEq, reduceIte, (idx_some hx11).1, (idx_some hx11).2]
          refine splitK_intro (fun hb14 => ?_) (fun hb14 => ?_)
          · have h := ifT hb14 h
            try simp only [go_sem, reduceEqDiff, reduceAdd, reduceSub, reduceMul, reduceLeDiff, reduceLT, Nat.reduceBEq, reduceIte, (idx_some hx11).1, (idx_some hx11).2, hb14]
            refine JoinQ.mk true [0] (Option.some.inj h) (by simp only [go_sem, reduceEqDiff, reduceAdd, reduceSub, reduceMul, reduceLeDiff, reduceLT, Nat.reduceBEq, reduceIte, (idx_some hx11).1, (idx_some hx11).2, hb14])
          have h := ifF hb14 h
          try simp only [go_sem, reduceEqDiff, reduceAdd, reduceSub, reduceMul, reduceLeDiff, reduceLT, Nat.reduceBEq, reduceIte, (idx_some hx11).1, (idx_some hx11).2, hb14]
          refine splitK_intro (fun hb15 => ?_) (fun hb15 => ?_)
          · have h := ifT hb15 h
            apply obindE h; intro x16 hx17 h
            try simp only [go_sem, reduceEqDiff, reduceAdd, reduceSub, reduceMul, reduceLeDiff, reduceLT, Nat.reduceBEq, reduceIte, (idx_some hx11).1, (idx_some hx11).2, hb14, hb15, (idx_some hx17).1, (idx_some hx17).2]
            refine JoinQ.mk (!Op.bytesLess x16.toList x10.toList) [0] (Option.some.inj h) (by simp only [go_sem, reduceEqDiff, reduceAdd, reduceSub, reduceMul, reduceLeDiff, reduceLT, Nat.reduceBEq, reduceIte, (idx_some hx11).1, (idx_some hx11).2, hb14, hb15, (idx_some hx17).1, (idx_some hx17).2])
          have h := ifF hb15 h
          try simp only [go_sem, reduceEqDiff, reduceAdd, reduceSub, reduceMul, reduceLeDiff, reduceLT, Nat.reduceBEq, reduceIte, (idx_some hx11).1, (idx_some hx11).2, hb14, hb15]
          refine JoinQ.mk false [0] (Option.some.inj h) (by simp only [go_sem, reduceEqDiff, reduceAdd, reduceSub, reduceMul, reduceLeDiff, reduceLT, Nat.reduceBEq, reduceIte, (idx_some hx11).1, (idx_some hx11).2, hb14, hb15])
        rintro v8_0 rfl
        have h := hJ9
        try dsimp only [Out.fin] at h
        refine nz ?_
        refine AW.ts v8_0 (fun hb18 => ?_) (fun hb18 => ?_)
        · have h := ifT hb18 h
          refine AW.op mixed ?_
          refine AW.ret ?_
          obtain ⟨_, h, ho⟩ := outM_some h
          rw [ho, Out.fin_out] at hJ7
          have h := h.trans hJ7
          obtain ⟨_, h, ho⟩ := outM_some h
          rw [ho, Out.fin_out] at hJ4
          have h := h.trans hJ4
          obtain rfl := Option.some.inj h
          refine nz ?_
          exact .same _
        have h := ifF hb18 h
        refine AW.sk ?_
        exact JoinQ.ar () [0] (Option.some.inj h).symm
      rintro ⟨⟩ rfl
      have h := hJ7
      try dsimp only [Out.fin] at h
      refine nz ?_
      refine AW.rg mixed ?_
      exact NextQ.ar (IntKind.wrap .i64 (i1_0 + (1 : Int))) [0] h
    have h := ifF hb5 h
    refine AW.ex ?_
    exact JoinQ.ar () [] (Option.some.inj h).symm
  rintro ⟨⟩ rfl
  have h := hJ4
  try dsimp only [Out.fin] at h
  refine nz ?_
  refine AW.kp [] [] ?_
  refine AW.op mixed ?_
  refine AW.ret ?_
  obtain rfl := Option.some.inj h
  refine nz ?_
  exact .same _
/-! ### isochrone/isochroneref10.with -/
def r10_with (K : Nat) (p0 : List ByteArray) (p1 : ByteArray) : Option (List ByteArray) := ((iter (S := Bool × Int × (List ByteArray)) (R := (Bool × (List ByteArray))) K (fun again (i1_0, i1_1, i1_2) => 
    if (decide (i1_1 < (p0.length : Int))) then
      ((
        ((
          ((
            if (!i1_0) then
              (idx p0 i1_1).bind fun x13 => 
              some (!Op.bytesLess x13.toList p1.toList)
            else
              some false) : Option Bool).bind (fun v10_0 => 
          if v10_0 then
            (appO 16 i1_2 [p1]).bind fun l16 => 
            some (true, l16)
          else
            some (i1_0, i1_2))) : Option (Bool × (List ByteArray))).bind (fun (v8_0, v8_1) => 
        (idx p0 i1_1).bind fun x18 => 
        if (!(x18.toList == p1.toList)) then
          (appO 16 v8_1 [x18]).bind fun l21 => 
          some (l21, v8_0)
        else
          some (v8_1, v8_0))) : Option ((List ByteArray) × Bool)).bind (fun (v6_0, v6_1) => 
      again (v6_1, IntKind.wrap .i64 (i1_1 + (1 : Int)), v6_0))
    else
      some (i1_0, i1_2)) (false, (0 : Int), [])) : Option (Bool × (List ByteArray))).bind (fun (e2_0, e2_1) => 
  if (!e2_0) then
    (appO 16 e2_1 [p1]).bind fun l24 => 
    some l24
  else
    some e2_1)
set_option maxHeartbeats 4000000 in
theorem r10_with_ok {K : Nat} {p0 : List ByteArray} {p1 : ByteArray} {r : (List ByteArray)} (h : r10_with K p0 p1 = some r) : Cn Tryz.prog 120 [.d (slD strV p0), .d (.val (.string p1))] (.d (slD strV r)) := by
  refine Cn.ofA mixed Tryz.func120 rfl Tryz.call120 Tryz.ntmps120 Tryz.results120 (by simp) (by simp only [go_sem, reduceEqDiff, reduceAdd, reduceSub, reduceMul, reduceLeDiff, reduceLT, Nat.reduceBEq, reduceIte]) fun hfit => ?_
  unfold r10_with at h
  refine AW.kp [] [0, 1] ?_
  refine AW.op mixed ?_
  refine AW.kp [] [0, 1] ?_
  refine AW.op mixed ?_
  refine AW.kp [] [0, 1, 5] ?_
  refine AW.op mixed ?_
  refine AW.kp [] [0, 1, 5, 6] ?_
  refine AW.one ?_
  refine AW.op mixed ?_
  refine AW.kp [] [0, 1, 5, 6, 7] ?_
  refine obindE h fun oJ4 h hJ4 => ?_
  refine AW.join (S := Bool × (List ByteArray)) (fun (e2_0, e2_1) => [(1, .d (.val (.string p1))), (5, accV 0 1 ((e2_1.map strV).map (·.map .d))), (6, .d (.val (.bool e2_0)))]) (fun (e2_0, e2_1) => [accO 1 ((e2_1.map strV).map (·.map .d))]) (fun x => x = oJ4) ?_ ?_
  · refine AW.block ?_
    refine AW.iter (S := Bool × Int × (List ByteArray)) (fun (i1_0, i1_1, i1_2) => [(0, .d (slD strV p0)), (1, .d (.val (.string p1))), (5, accV 0 1 ((i1_2.map strV).map (·.map .d))), (6, .d (.val (.bool i1_0))), (7, .d (.val (.int .i64 i1_1)))]) (fun (i1_0, i1_1, i1_2) => [accO 1 ((i1_2.map strV).map (·.map .d))]) [1000] h (by simp only [go_sem, reduceEqDiff, reduceAdd, reduceSub, reduceMul, reduceLeDiff, reduceLT, Nat.reduceBEq, reduceIte]) ?_
    rintro again ⟨i1_0, i1_1, i1_2⟩ h
    try dsimp only at h
    refine AW.one ?_
    refine AW.op mixed ?_
    refine AW.cu [0] [(0, .d (slD strV p0)), (1, .d (.val (.string p1))), (5, accV 0 1 ((i1_2.map strV).map (·.map .d))), (6, .d (.val (.bool i1_0))), (7, .d (.val (.int .i64 i1_1))), (11, .d (.val (.bool (decide (i1_1 < (p0.length : Int))))))] [accO 1 ((i1_2.map strV).map (·.map .d))] ?_
    refine AW.ts (decide (i1_1 < (p0.length : Int))) (fun hb5 => ?_) (fun hb5 => ?_)
    · have h := ifT hb5 h
      refine AW.sk ?_
      refine AW.cu [0] [(0, .d (slD strV p0)), (1, .d (.val (.string p1))), (5, accV 0 1 ((i1_2.map strV).map (·.map .d))), (6, .d (.val (.bool i1_0))), (7, .d (.val (.int .i64 i1_1)))] [accO 1 ((i1_2.map strV).map (·.map .d))] ?_
      refine AW.one ?_
      refine obindE h fun oJ7 h hJ7 => ?_
      refine AW.join (S := (List ByteArray) × Bool) (fun (v6_0, v6_1) => [(0, .d (slD strV p0)), (1, .d (.val (.string p1))), (5, accV 0 1 ((v6_0.map strV).map (·.map .d))), (6, .d (.val (.bool v6_1))), (7, .d (.val (.int .i64 i1_1)))]) (fun (v6_0, v6_1) => [accO 1 ((v6_0.map strV).map (·.map .d))]) (fun x => x = oJ7) ?_ ?_
      · skip
        refine AW.block ?_
        refine AW.one ?_
        refine obindE h fun oJ9 h hJ9 => ?_
        refine AW.join (S := Bool × (List ByteArray)) (fun (v8_0, v8_1) => [(0, .d (slD strV p0)), (1, .d (.val (.string p1))), (5, accV 0 1 ((v8_1.map strV).map (·.map .d))), (6, .d (.val (.bool v8_0))), (7, .d (.val (.int .i64 i1_1)))]) (fun (v8_0, v8_1) => [accO 1 ((v8_1.map strV).map (·.map .d))]) (fun x => x = oJ9) ?_ ?_
        · skip
          refine AW.one ?_
          refine obindE h fun oJ11 h hJ11 => ?_
          refine AW.join (S := Bool) (fun v10_0 => [(0, .d (slD strV p0)), (1, .d (.val (.string p1))), (5, accV 0 1 ((i1_2.map strV).map (·.map .d))), (6, .d (.val (.bool i1_0))), (7, .d (.val (.int .i64 i1_1))), (23, .d (.val (.bool v10_0)))]) (fun v10_0 => [accO 1 ((i1_2.map strV).map (·.map .d))]) (fun x => x = oJ11) ?_ ?_
          · skip
            refine AW.rg mixed ?_
            refine splitK_intro (fun hb12 => ?_) (fun hb12 => ?_)
            · have h := ifT hb12 h
              apply obindE h; intro x13 hx14 h
              try simp only [go_sem, reduceEqDiff, reduceAdd, reduceSub, reduceMul, reduceLeDiff, reduceLT, Nat.reduceBEq, reduceIte, hb12, (idx_some hx14).1, (idx_some hx14).2]
              refine JoinQ.mk (!Op.bytesLess x13.toList p1.toList) [0] (Option.some.inj h) (by simp only [go_sem, reduceEqDiff, reduceAdd, reduceSub, reduceMul, reduceLeDiff, reduceLT, Nat.reduceBEq, reduceIte, hb12, (idx_some hx14).1, (idx_some hx14).2])
            have h := ifF hb12 h
            try simp only [go_sem, reduceEqDiff, reduceAdd, reduceSub, reduceMul, reduceLeDiff, reduceLT, Nat.reduceBEq, reduceIte, hb12]
            refine JoinQ.mk false [0] (Option.some.inj h) (by simp only [go_sem, reduceEqDiff, reduceAdd, reduceSub, reduceMul, reduceLeDiff, reduceLT, Nat.reduceBEq, reduceIte, hb12])
          rintro v10_0 rfl
          have h := hJ11
          try dsimp only [Out.fin] at h
          refine nz ?_
          refine AW.ts v10_0 (fun hb15 => ?_) (fun hb15 => ?_)
          · have h := ifT hb15 h
            refine AW.op mixed ?_
            apply obindE h; intro l16 hx17 h
            refine appG hx17 rfl (by simp only [go_sem, reduceEqDiff, reduceAdd, reduceSub, reduceMul, reduceLeDiff, reduceLT, Nat.reduceBEq, reduceIte]) (by simp only [go_sem, reduceEqDiff, reduceAdd, reduceSub, reduceMul, reduceLeDiff, reduceLT, Nat.reduceBEq, reduceIte]) (by simp only [go_sem, reduceEqDiff, reduceAdd, reduceSub, reduceMul, reduceLeDiff, reduceLT, Nat.reduceBEq, reduceIte]) (by simp) ?_
            try simp only [go_sem, reduceEqDiff, reduceAdd, reduceSub, reduceMul, reduceLeDiff, reduceLT, Nat.reduceBEq, reduceIte]
            refine AW.cu [4] [(0, .d (slD strV p0)), (1, .d (.val (.string p1))), (5, accV 0 1 ((l16.map strV).map (·.map .d))), (7, .d (.val (.int .i64 i1_1)))] [accO 1 ((l16.map strV).map (·.map .d))] ?_
            refine AW.rg mixed ?_
            exact JoinQ.ar (true, l16) [0] (Option.some.inj h)
          have h := ifF hb15 h
          refine AW.sk ?_
          exact JoinQ.ar (i1_0, i1_2) [0] (Option.some.inj h)
        rintro ⟨v8_0, v8_1⟩ rfl
        have h := hJ9
        try dsimp only [Out.fin] at h
        refine nz ?_
        refine AW.one ?_
        refine AW.reg mixed (by kernel_rfl) ?_
        apply obindE h; intro x18 hx19 h
        try simp only [go_sem, reduceEqDiff, reduceAdd, reduceSub, reduceMul, reduceLeDiff, reduceLT, Nat.reduceBEq, reduceIte, (idx_some hx19).1, (idx_some hx19).2]
        refine AW.cut [0] [(0, .d (slD strV p0)), (1, .d (.val (.string p1))), (5, accV 0 1 ((v8_1.map strV).map (·.map .d))), (6, .d (.val (.bool v8_0))), (7, .d (.val (.int .i64 i1_1))), (33, .d (.val (.bool (!(x18.toList == p1.toList)))))] [accO 1 ((v8_1.map strV).map (·.map .d))] (by simp only [go_sem, reduceEqDiff, reduceAdd, reduceSub, reduceMul, reduceLeDiff, reduceLT, Nat.reduceBEq, reduceIte, (idx_some hx19).1, (idx_some hx19).2]) ?_
        refine AW.ts (!(x18.toList == p1.toList)) (fun hb20 => ?_) (fun hb20 => ?_)
        · have h := ifT hb20 h
          refine AW.reg mixed (by kernel_rfl) ?_
          try simp only [go_sem, reduceEqDiff, reduceAdd, reduceSub, reduceMul, reduceLeDiff, reduceLT, Nat.reduceBEq, reduceIte, (idx_some hx19).1, (idx_some hx19).2]
          apply obindE h; intro l21 hx22 h
          refine appG hx22 rfl (by simp only [go_sem, reduceEqDiff, reduceAdd, reduceSub, reduceMul, reduceLeDiff, reduceLT, Nat.reduceBEq, reduceIte, (idx_some hx19).1, (idx_some hx19).2]) (by simp only [go_sem, reduceEqDiff, reduceAdd, reduceSub, reduceMul, reduceLeDiff, reduceLT, Nat.reduceBEq, reduceIte, (idx_some hx19).1, (idx_some hx19).2]) (by simp only [go_sem, reduceEqDiff, reduceAdd, reduceSub, reduceMul, reduceLeDiff, reduceLT, Nat.reduceBEq, reduceIte, (idx_some hx19).1, (idx_some hx19).2]) (by simp) ?_
          try simp only [go_sem, reduceEqDiff, reduceAdd, reduceSub, reduceMul, reduceLeDiff, reduceLT, Nat.reduceBEq, reduceIte, (idx_some hx19).1, (idx_some hx19).2]
          refine JoinQ.mk (l21, v8_0) [7] (Option.some.inj h) (by simp only [go_sem, reduceEqDiff, reduceAdd, reduceSub, reduceMul, reduceLeDiff, reduceLT, Nat.reduceBEq, reduceIte, (idx_some hx19).1, (idx_some hx19).2])
        have h := ifF hb20 h
        refine AW.sk ?_
        exact JoinQ.ar (v8_1, v8_0) [0] (Option.some.inj h)
      rintro ⟨v6_0, v6_1⟩ rfl
      have h := hJ7
      try dsimp only [Out.fin] at h
      refine nz ?_
      refine AW.rg mixed ?_
      exact NextQ.ar (v6_1, IntKind.wrap .i64 (i1_1 + (1 : Int)), v6_0) [0] h
    have h := ifF hb5 h
    refine AW.ex ?_
    exact JoinQ.ar (i1_0, i1_2) [0] (Option.some.inj h)
  rintro ⟨e2_0, e2_1⟩ rfl
  have h := hJ4
  try dsimp only [Out.fin] at h
  refine nz ?_
  refine AW.cu [0] [(1, .d (.val (.string p1))), (5, accV 0 1 ((e2_1.map strV).map (·.map .d))), (6, .d (.val (.bool e2_0)))] [accO 1 ((e2_1.map strV).map (·.map .d))] ?_
  refine AW.one ?_
  refine AW.op mixed ?_
  refine AW.cu [0] [(1, .d (.val (.string p1))), (5, accV 0 1 ((e2_1.map strV).map (·.map .d))), (42, .d (.val (.bool (!e2_0))))] [accO 1 ((e2_1.map strV).map (·.map .d))] ?_
  refine AW.ts (!e2_0) (fun hb23 => ?_) (fun hb23 => ?_)
  · have h := ifT hb23 h
    refine AW.rg mixed ?_
    apply obindE h; intro l24 hx25 h
    refine appG hx25 rfl (by simp only [go_sem, reduceEqDiff, reduceAdd, reduceSub, reduceMul, reduceLeDiff, reduceLT, Nat.reduceBEq, reduceIte]) (by simp only [go_sem, reduceEqDiff, reduceAdd, reduceSub, reduceMul, reduceLeDiff, reduceLT, Nat.reduceBEq, reduceIte]) (by simp only [go_sem, reduceEqDiff, reduceAdd, reduceSub, reduceMul, reduceLeDiff, reduceLT, Nat.reduceBEq, reduceIte]) (by simp) ?_
    try simp only [go_sem, reduceEqDiff, reduceAdd, reduceSub, reduceMul, reduceLeDiff, reduceLT, Nat.reduceBEq, reduceIte]
    refine AW.cu [4] [(5, accV 0 1 ((l24.map strV).map (·.map .d)))] [accO 1 ((l24.map strV).map (·.map .d))] ?_
    refine AW.op mixed ?_
    refine AW.ret ?_
    obtain rfl := Option.some.inj h
    refine nz ?_
    exact sealAcc (by simp only [go_sem, reduceEqDiff, reduceAdd, reduceSub, reduceMul, reduceLeDiff, reduceLT, Nat.reduceBEq, reduceIte])
  have h := ifF hb23 h
  refine AW.sk ?_
  refine AW.cu [0] [(5, accV 0 1 ((e2_1.map strV).map (·.map .d)))] [accO 1 ((e2_1.map strV).map (·.map .d))] ?_
  refine AW.op mixed ?_
  refine AW.ret ?_
  obtain rfl := Option.some.inj h
  refine nz ?_
  exact sealAcc (by simp only [go_sem, reduceEqDiff, reduceAdd, reduceSub, reduceMul, reduceLeDiff, reduceLT, Nat.reduceBEq, reduceIte])
/-! ### isochrone/isochroneref10.both -/
def r10_both (K : Nat) (p0 : List ByteArray) (p1 : List ByteArray) : Option (List ByteArray) := ((iter (S := (List ByteArray) × Int) (R := (List ByteArray)) K (fun again (i1_0, i1_1) => 
    if (decide (i1_1 < (p1.length : Int))) then
      (idx p1 i1_1).bind fun x6 => 
      (r10_with K i1_0 x6).bind fun r8 => 
      again (r8, IntKind.wrap .i64 (i1_1 + (1 : Int)))
    else
      some i1_0) (p0, (0 : Int))) : Option (List ByteArray)).bind (fun e2_0 => 
  some e2_0)
set_option maxHeartbeats 4000000 in
theorem r10_both_ok {K : Nat} {p0 : List ByteArray} {p1 : List ByteArray} {r : (List ByteArray)} (h : r10_both K p0 p1 = some r) : Cn Tryz.prog 106 [.d (slD strV p0), .d (slD strV p1)] (.d (slD strV r)) := by
  refine Cn.ofA mixed Tryz.func106 rfl Tryz.call106 Tryz.ntmps106 Tryz.results106 (by simp) (by simp only [go_sem, reduceEqDiff, reduceAdd, reduceSub, reduceMul, reduceLeDiff, reduceLT, Nat.reduceBEq, reduceIte]) fun hfit => ?_
  unfold r10_both at h
  refine AW.kp [] [0, 1] ?_
  refine AW.op mixed ?_
  refine AW.kp [] [0, 1] ?_
  refine AW.op mixed ?_
  refine AW.kp [] [1, 5] ?_
  refine AW.one ?_
  refine AW.op mixed ?_
  refine AW.kp [] [1, 5, 6] ?_
  refine obindE h fun oJ4 h hJ4 => ?_
  refine AW.join (S := (List ByteArray)) (fun e2_0 => [(5, .d (slD strV e2_0))]) (fun e2_0 => []) (fun x => x = oJ4) ?_ ?_
  · refine AW.block ?_
    refine AW.iter (S := (List ByteArray) × Int) (fun (i1_0, i1_1) => [(1, .d (slD strV p1)), (5, .d (slD strV i1_0)), (6, .d (.val (.int .i64 i1_1)))]) (fun (i1_0, i1_1) => []) [] h (by simp only [go_sem, reduceEqDiff, reduceAdd, reduceSub, reduceMul, reduceLeDiff, reduceLT, Nat.reduceBEq, reduceIte]) ?_
    rintro again ⟨i1_0, i1_1⟩ h
    try dsimp only at h
    refine AW.one ?_
    refine AW.op mixed ?_
    refine AW.kp [] [1, 5, 6, 11] ?_
    refine AW.ts (decide (i1_1 < (p1.length : Int))) (fun hb5 => ?_) (fun hb5 => ?_)
    · have h := ifT hb5 h
      refine AW.sk ?_
      refine AW.kp [] [1, 5, 6] ?_
      refine AW.one ?_
      refine AW.block ?_
      refine AW.reg mixed (by kernel_rfl) ?_
      apply obindE h; intro x6 hx7 h
      try simp only [go_sem, reduceEqDiff, reduceAdd, reduceSub, reduceMul, reduceLeDiff, reduceLT, Nat.reduceBEq, reduceIte, (idx_some hx7).1, (idx_some hx7).2]
      apply obindE h; intro r8 hx9 h
      have hc := nx (r10_with_ok (h := hx9))
      refine callK_pure hc (by simp only [go_sem, reduceEqDiff, reduceAdd, reduceSub, reduceMul, reduceLeDiff, reduceLT, Nat.reduceBEq, reduceIte]) ?_
      try simp only [go_sem, reduceEqDiff, reduceAdd, reduceSub, reduceMul, reduceLeDiff, reduceLT, Nat.reduceBEq, reduceIte, (idx_some hx7).1, (idx_some hx7).2]
      refine AW.cut [] [(1, .d (slD strV p1)), (5, .d (slD strV r8)), (6, .d (.val (.int .i64 i1_1)))] [] (by simp only [go_sem, reduceEqDiff, reduceAdd, reduceSub, reduceMul, reduceLeDiff, reduceLT, Nat.reduceBEq, reduceIte, (idx_some hx7).1, (idx_some hx7).2]) ?_
      refine AW.rg mixed ?_
      exact NextQ.ar (r8, IntKind.wrap .i64 (i1_1 + (1 : Int))) [] h
    have h := ifF hb5 h
    refine AW.ex ?_
    exact JoinQ.ar i1_0 [] (Option.some.inj h)
  rintro e2_0 rfl
  have h := hJ4
  try dsimp only [Out.fin] at h
  refine nz ?_
  refine AW.kp [] [5] ?_
  refine AW.op mixed ?_
  refine AW.ret ?_
  obtain rfl := Option.some.inj h
  refine nz ?_
  exact .same _
/-! ### isochrone/isochroneref10.listed -/
def r10_listed (K : Nat) (p0 : List ByteArray) (p1 : ByteArray) : Option Bool := ((iter (S := Int) (R := Out Unit _) K (fun again i1_0 => 
    if (decide (i1_0 < (p0.length : Int))) then
      (idx p0 i1_0).bind fun x6 => 
      if (x6.toList == p1.toList) then
        outM (
          some true)
      else
        again (IntKind.wrap .i64 (i1_0 + (1 : Int)))
    else
      some (.go ())) (0 : Int)) : Option (Out Unit _)).bind (Out.fin fun _ => 
  some false)
set_option maxHeartbeats 4000000 in
theorem r10_listed_ok {K : Nat} {p0 : List ByteArray} {p1 : ByteArray} {r : Bool} (h : r10_listed K p0 p1 = some r) : Cn Tryz.prog 103 [.d (slD strV p0), .d (.val (.string p1))] (.d (.val (.bool r))) := by
  refine Cn.ofA mixed Tryz.func103 rfl Tryz.call103 Tryz.ntmps103 Tryz.results103 (by simp) (by simp only [go_sem, reduceEqDiff, reduceAdd, reduceSub, reduceMul, reduceLeDiff, reduceLT, Nat.reduceBEq, reduceIte]) fun hfit => ?_
  unfold r10_listed at h
  refine AW.kp [] [0, 1] ?_
  refine AW.op mixed ?_
  refine AW.kp [] [0, 1] ?_
  refine AW.one ?_
  refine AW.op mixed ?_
  refine AW.kp [] [0, 1, 5] ?_
  refine obindE h fun oJ4 h hJ4 => ?_
  refine AW.join (S := Unit) (fun _ => []) (fun _ => []) (fun x => oJ4 = .go x) ?_ ?_
  · refine AW.block ?_
    refine AW.iter (S := Int) (fun i1_0 => [(0, .d (slD strV p0)), (1, .d (.val (.string p1))), (5, .d (.val (.int .i64 i1_0)))]) (fun i1_0 => []) [] h (by simp only [go_sem, reduceEqDiff, reduceAdd, reduceSub, reduceMul, reduceLeDiff, reduceLT, Nat.reduceBEq, reduceIte]) ?_
    rintro again i1_0 h
    try dsimp only at h
    refine AW.one ?_
    refine AW.op mixed ?_
    refine AW.kp [] [0, 1, 5, 9] ?_
    refine AW.ts (decide (i1_0 < (p0.length : Int))) (fun hb5 => ?_) (fun hb5 => ?_)
    · have h := ifT hb5 h
      refine AW.sk ?_
      refine AW.kp [] [0, 1, 5] ?_
      refine AW.one ?_
      refine AW.block ?_
      refine AW.one ?_
      refine AW.reg mixed (by kernel_rfl) ?_
      apply obindE h; intro x6 hx7 h
      try simp only [go_sem, reduceEqDiff, reduceAdd, reduceSub, reduceMul, reduceLeDiff, reduceLT, Nat.reduceBEq, reduceIte, (idx_some hx7).1, (idx_some hx7).2]
      refine AW.cut [] [(0, .d (slD strV p0)), (1, .d (.val (.string p1))), (5, .d (.val (.int .i64 i1_0))), (17, .d (.val (.bool (x6.toList == p1.toList))))] [] (by simp only [go_sem, reduceEqDiff, reduceAdd, reduceSub, reduceMul, reduceLeDiff, reduceLT, Nat.reduceBEq, reduceIte, (idx_some hx7).1, (idx_some hx7).2]) ?_
      refine AW.ts (x6.toList == p1.toList) (fun hb8 => ?_) (fun hb8 => ?_)
      · have h := ifT hb8 h
        refine AW.op mixed ?_
        refine AW.ret ?_
        obtain ⟨_, h, ho⟩ := outM_some h
        rw [ho, Out.fin_out] at hJ4
        have h := h.trans hJ4
        obtain rfl := Option.some.inj h
        refine nz ?_
        exact .same _
      have h := ifF hb8 h
      refine AW.sk ?_
      refine AW.kp [] [0, 1, 5] ?_
      refine AW.rg mixed ?_
      exact NextQ.ar (IntKind.wrap .i64 (i1_0 + (1 : Int))) [] h
    have h := ifF hb5 h
    refine AW.ex ?_
    exact JoinQ.ar () [] (Option.some.inj h).symm
  rintro ⟨⟩ rfl
  have h := hJ4
  try dsimp only [Out.fin] at h
  refine nz ?_
  refine AW.kp [] [] ?_
  refine AW.op mixed ?_
  refine AW.ret ?_
  obtain rfl := Option.some.inj h
  refine nz ?_
  exact .same _
/-! ### isochrone/isochroneref10.kept -/
def r10_kept (K : Nat) (p0 : List ByteArray) (p1 : List ByteArray) (p2 : Bool) : Option (List ByteArray) := ((iter (S := Int × (List ByteArray)) (R := (List ByteArray)) K (fun again (i1_0, i1_1) => 
    if (decide (i1_0 < (p0.length : Int))) then
      ((
        (idx p0 i1_0).bind fun x8 => 
        (r10_listed K p1 x8).bind fun r10 => 
        if (r10 == p2) then
          (appO 16 i1_1 [x8]).bind fun l13 => 
          some l13
        else
          some i1_1) : Option (List ByteArray)).bind (fun v6_0 => 
      again (IntKind.wrap .i64 (i1_0 + (1 : Int)), v6_0))
    else
      some i1_1) ((0 : Int), [])) : Option (List ByteArray)).bind (fun e2_0 => 
  some e2_0)
set_option maxHeartbeats 4000000 in
theorem r10_kept_ok {K : Nat} {p0 : List ByteArray} {p1 : List ByteArray} {p2 : Bool} {r : (List ByteArray)} (h : r10_kept K p0 p1 p2 = some r) : Cn Tryz.prog 105 [.d (slD strV p0), .d (slD strV p1), .d (.val (.bool p2))] (.d (slD strV r)) := by
  refine Cn.ofA mixed Tryz.func105 rfl Tryz.call105 Tryz.ntmps105 Tryz.results105 (by simp) (by simp only [go_sem, reduceEqDiff, reduceAdd, reduceSub, reduceMul, reduceLeDiff, reduceLT, Nat.reduceBEq, reduceIte]) fun hfit => ?_
  unfold r10_kept at h
  refine AW.kp [] [0, 1, 2] ?_
  refine AW.op mixed ?_
  refine AW.kp [] [0, 1, 2] ?_
  refine AW.op mixed ?_
  refine AW.kp [] [0, 1, 2, 7] ?_
  refine AW.one ?_
  refine AW.op mixed ?_
  refine AW.kp [] [0, 1, 2, 7, 8] ?_
  refine obindE h fun oJ4 h hJ4 => ?_
  refine AW.join (S := (List ByteArray)) (fun e2_0 => [(7, accV 0 1 ((e2_0.map strV).map (·.map .d)))]) (fun e2_0 => [accO 1 ((e2_0.map strV).map (·.map .d))]) (fun x => x = oJ4) ?_ ?_
  · refine AW.block ?_
    refine AW.iter (S := Int × (List ByteArray)) (fun (i1_0, i1_1) => [(0, .d (slD strV p0)), (1, .d (slD strV p1)), (2, .d (.val (.bool p2))), (7, accV 0 1 ((i1_1.map strV).map (·.map .d))), (8, .d (.val (.int .i64 i1_0)))]) (fun (i1_0, i1_1) => [accO 1 ((i1_1.map strV).map (·.map .d))]) [1000] h (by simp only [go_sem, reduceEqDiff, reduceAdd, reduceSub, reduceMul, reduceLeDiff, reduceLT, Nat.reduceBEq, reduceIte]) ?_
    rintro again ⟨i1_0, i1_1⟩ h
    try dsimp only at h
    refine AW.one ?_
    refine AW.op mixed ?_
    refine AW.cu [0] [(0, .d (slD strV p0)), (1, .d (slD strV p1)), (2, .d (.val (.bool p2))), (7, accV 0 1 ((i1_1.map strV).map (·.map .d))), (8, .d (.val (.int .i64 i1_0))), (12, .d (.val (.bool (decide (i1_0 < (p0.length : Int))))))] [accO 1 ((i1_1.map strV).map (·.map .d))] ?_
    refine AW.ts (decide (i1_0 < (p0.length : Int))) (fun hb5 => ?_) (fun hb5 => ?_)
    · have h := ifT hb5 h
      refine AW.sk ?_
      refine AW.cu [0] [(0, .d (slD strV p0)), (1, .d (slD strV p1)), (2, .d (.val (.bool p2))), (7, accV 0 1 ((i1_1.map strV).map (·.map .d))), (8, .d (.val (.int .i64 i1_0)))] [accO 1 ((i1_1.map strV).map (·.map .d))] ?_
      refine AW.one ?_
      refine obindE h fun oJ7 h hJ7 => ?_
      refine AW.join (S := (List ByteArray)) (fun v6_0 => [(0, .d (slD strV p0)), (1, .d (slD strV p1)), (2, .d (.val (.bool p2))), (7, accV 0 1 ((v6_0.map strV).map (·.map .d))), (8, .d (.val (.int .i64 i1_0)))]) (fun v6_0 => [accO 1 ((v6_0.map strV).map (·.map .d))]) (fun x => x = oJ7) ?_ ?_
      · skip
        refine AW.block ?_
        refine AW.one ?_
        refine AW.reg mixed (by kernel_rfl) ?_
        apply obindE h; intro x8 hx9 h
        try simp only [go_sem, reduceEqDiff, reduceAdd, reduceSub, reduceMul, reduceLeDiff, reduceLT, Nat.reduceBEq, reduceIte, (idx_some hx9).1, (idx_some hx9).2]
        apply obindE h; intro r10 hx11 h
        have hc := nx (r10_listed_ok (h := hx11))
        refine callK_pure hc (by simp only [go_sem, reduceEqDiff, reduceAdd, reduceSub, reduceMul, reduceLeDiff, reduceLT, Nat.reduceBEq, reduceIte]) ?_
        try simp only [go_sem, reduceEqDiff, reduceAdd, reduceSub, reduceMul, reduceLeDiff, reduceLT, Nat.reduceBEq, reduceIte, (idx_some hx9).1, (idx_some hx9).2]
        refine AW.cut [0] [(0, .d (slD strV p0)), (1, .d (slD strV p1)), (2, .d (.val (.bool p2))), (7, accV 0 1 ((i1_1.map strV).map (·.map .d))), (8, .d (.val (.int .i64 i1_0))), (22, .d (.val (.bool (r10 == p2))))] [accO 1 ((i1_1.map strV).map (·.map .d))] (by simp only [go_sem, reduceEqDiff, reduceAdd, reduceSub, reduceMul, reduceLeDiff, reduceLT, Nat.reduceBEq, reduceIte, (idx_some hx9).1, (idx_some hx9).2]) ?_
        refine AW.ts (r10 == p2) (fun hb12 => ?_) (fun hb12 => ?_)
        · have h := ifT hb12 h
          refine AW.reg mixed (by kernel_rfl) ?_
          try simp only [go_sem, reduceEqDiff, reduceAdd, reduceSub, reduceMul, reduceLeDiff, reduceLT, Nat.reduceBEq, reduceIte, (idx_some hx9).1, (idx_some hx9).2]
          apply obindE h; intro l13 hx14 h
          refine appG hx14 rfl (by simp only [go_sem, reduceEqDiff, reduceAdd, reduceSub, reduceMul, reduceLeDiff, reduceLT, Nat.reduceBEq, reduceIte, (idx_some hx9).1, (idx_some hx9).2]) (by simp only [go_sem, reduceEqDiff, reduceAdd, reduceSub, reduceMul, reduceLeDiff, reduceLT, Nat.reduceBEq, reduceIte, (idx_some hx9).1, (idx_some hx9).2]) (by simp only [go_sem, reduceEqDiff, reduceAdd, reduceSub, reduceMul, reduceLeDiff, reduceLT, Nat.reduceBEq, reduceIte, (idx_some hx9).1, (idx_some hx9).2]) (by simp) ?_
          try simp only [go_sem, reduceEqDiff, reduceAdd, reduceSub, reduceMul, reduceLeDiff, reduceLT, Nat.reduceBEq, reduceIte, (idx_some hx9).1, (idx_some hx9).2]
          refine JoinQ.mk l13 [7] (Option.some.inj h) (by simp only [go_sem, reduceEqDiff, reduceAdd, reduceSub, reduceMul, reduceLeDiff, reduceLT, Nat.reduceBEq, reduceIte, (idx_some hx9).1, (idx_some hx9).2])
        have h := ifF hb12 h
        refine AW.sk ?_
        exact JoinQ.ar i1_1 [0] (Option.some.inj h)
      rintro v6_0 rfl
      have h := hJ7
      try dsimp only [Out.fin] at h
      refine nz ?_
      refine AW.rg mixed ?_
      exact NextQ.ar (IntKind.wrap .i64 (i1_0 + (1 : Int)), v6_0) [0] h
    have h := ifF hb5 h
    refine AW.ex ?_
    exact JoinQ.ar i1_1 [0] (Option.some.inj h)
  rintro e2_0 rfl
  have h := hJ4
  try dsimp only [Out.fin] at h
  refine nz ?_
  refine AW.cu [0] [(7, accV 0 1 ((e2_0.map strV).map (·.map .d)))] [accO 1 ((e2_0.map strV).map (·.map .d))] ?_
  refine AW.op mixed ?_
  refine AW.ret ?_
  obtain rfl := Option.some.inj h
  refine nz ?_
  exact sealAcc (by simp only [go_sem, reduceEqDiff, reduceAdd, reduceSub, reduceMul, reduceLeDiff, reduceLT, Nat.reduceBEq, reduceIte])
/-! ### isochrone/isochroneref10.join -/
def r10_join (K : Nat) (p0 : Api_NamesA) (p1 : Api_NamesA) : Option Api_NamesA := ((
    ((
      if p0.all then
        some p1.all
      else
        some false) : Option Bool).bind (fun v3_0 => 
    if v3_0 then
      (r10_kept K p0.list p1.list true).bind fun r7 => 
      outM (
        some (Api_NamesA.mk true r7))
    else
      if p0.all then
        (r10_kept K p0.list p1.list false).bind fun r10 => 
        outM (
          some (Api_NamesA.mk true r10))
      else
        if p1.all then
          (r10_kept K p1.list p0.list false).bind fun r13 => 
          outM (
            some (Api_NamesA.mk true r13))
        else
          some (.go ()))) : Option (Out Unit _)).bind (Out.fin fun _ => 
  (r10_both K p0.list p1.list).bind fun r15 => 
  some (Api_NamesA.mk false r15))
set_option maxHeartbeats 4000000 in
theorem r10_join_ok {K : Nat} {p0 : Api_NamesA} {p1 : Api_NamesA} {r : Api_NamesA} (h : r10_join K p0 p1 = some r) : Cn Tryz.prog 86 [aggV p0.enc, aggV p1.enc] (aggV r.enc) := by
  refine Cn.ofA mixed Tryz.func86 rfl Tryz.call86 Tryz.ntmps86 Tryz.results86 (by simp) (by simp only [go_sem, reduceEqDiff, reduceAdd, reduceSub, reduceMul, reduceLeDiff, reduceLT, Nat.reduceBEq, reduceIte]) fun hfit => ?_
  unfold r10_join at h
  refine AW.kp [] [0, 1] ?_
  refine AW.op mixed ?_
  refine AW.kp [0, 1, 2] [2, 3, 4] ?_
  refine AW.one ?_
  refine obindE h fun oJ2 h hJ2 => ?_
  refine AW.join (S := Unit) (fun _ => [(2, .ptr 0 2 0 0), (3, .ptr 1 2 0 0), (4, .ptr 2 2 0 0)]) (fun _ => [some ⟨2, [[.d (.val (.bool p0.all)), .d (slD strV p0.list)]]⟩, some ⟨2, [[.d (.val (.bool p1.all)), .d (slD strV p1.list)]]⟩, some ⟨2, [[.d (.val (.bool false)), .d (.val (.slice none 0 0))]]⟩]) (fun x => oJ2 = .go x) ?_ ?_
  · skip
    refine AW.block ?_
    refine AW.one ?_
    refine obindE h fun oJ4 h hJ4 => ?_
    refine AW.join (S := Bool) (fun v3_0 => [(2, .ptr 0 2 0 0), (3, .ptr 1 2 0 0), (4, .ptr 2 2 0 0), (5, .d (.val (.bool v3_0)))]) (fun v3_0 => [some ⟨2, [[.d (.val (.bool p0.all)), .d (slD strV p0.list)]]⟩, some ⟨2, [[.d (.val (.bool p1.all)), .d (slD strV p1.list)]]⟩, some ⟨2, [[.d (.val (.bool false)), .d (.val (.slice none 0 0))]]⟩]) (fun x => x = oJ4) ?_ ?_
    · skip
      refine AW.rg mixed ?_
      refine splitK_intro (fun hb5 => ?_) (fun hb5 => ?_)
      · have h := ifT hb5 h
        try simp only [go_sem, reduceEqDiff, reduceAdd, reduceSub, reduceMul, reduceLeDiff, reduceLT, Nat.reduceBEq, reduceIte, hb5]
        refine JoinQ.mk p1.all [0, 1, 2] (Option.some.inj h) (by simp only [go_sem, reduceEqDiff, reduceAdd, reduceSub, reduceMul, reduceLeDiff, reduceLT, Nat.reduceBEq, reduceIte, hb5])
      have h := ifF hb5 h
      try simp only [go_sem, reduceEqDiff, reduceAdd, reduceSub, reduceMul, reduceLeDiff, reduceLT, Nat.reduceBEq, reduceIte, hb5]
      refine JoinQ.mk false [0, 1, 2] (Option.some.inj h) (by simp only [go_sem, reduceEqDiff, reduceAdd, reduceSub, reduceMul, reduceLeDiff, reduceLT, Nat.reduceBEq, reduceIte, hb5])
    rintro v3_0 rfl
    have h := hJ4
    try dsimp only [Out.fin] at h
    refine nz ?_
    refine AW.ts v3_0 (fun hb6 => ?_) (fun hb6 => ?_)
    · have h := ifT hb6 h
      refine AW.op mixed ?_
      apply obindE h; intro r7 hx8 h
      have hc := nx (r10_kept_ok (h := hx8))
      refine callP hc ?_
      refine AW.ret ?_
      obtain ⟨_, h, ho⟩ := outM_some h
      rw [ho, Out.fin_out] at hJ2
      have h := h.trans hJ2
      obtain rfl := Option.some.inj h
      refine nz ?_
      exact .same _
    have h := ifF hb6 h
    refine AW.op mixed ?_
    refine AW.kp [0, 1, 2] [2, 3, 4, 18] ?_
    refine AW.ts p0.all (fun hb9 => ?_) (fun hb9 => ?_)
    · have h := ifT hb9 h
      refine AW.op mixed ?_
      apply obindE h; intro r10 hx11 h
      have hc := nx (r10_kept_ok (h := hx11))
      refine callP hc ?_
      refine AW.ret ?_
      obtain ⟨_, h, ho⟩ := outM_some h
      rw [ho, Out.fin_out] at hJ2
      have h := h.trans hJ2
      obtain rfl := Option.some.inj h
      refine nz ?_
      exact .same _
    have h := ifF hb9 h
    refine AW.op mixed ?_
    refine AW.kp [0, 1, 2] [2, 3, 4, 27] ?_
    refine AW.ts p1.all (fun hb12 => ?_) (fun hb12 => ?_)
    · have h := ifT hb12 h
      refine AW.op mixed ?_
      apply obindE h; intro r13 hx14 h
      have hc := nx (r10_kept_ok (h := hx14))
      refine callP hc ?_
      refine AW.ret ?_
      obtain ⟨_, h, ho⟩ := outM_some h
      rw [ho, Out.fin_out] at hJ2
      have h := h.trans hJ2
      obtain rfl := Option.some.inj h
      refine nz ?_
      exact .same _
    have h := ifF hb12 h
    refine AW.sk ?_
    exact JoinQ.ar () [0, 1, 2] (Option.some.inj h).symm
  rintro ⟨⟩ rfl
  have h := hJ2
  try dsimp only [Out.fin] at h
  refine nz ?_
  refine AW.op mixed ?_
  apply obindE h; intro r15 hx16 h
  have hc := nx (r10_both_ok (h := hx16))
  refine callP hc ?_
  refine AW.ret ?_
  obtain rfl := Option.some.inj h
  refine nz ?_
  exact .same _
/-! ### isochrone/isochroneref10.Union -/
def r10_Union (K : Nat) (p0 : Api_NamesA) (p1 : Api_NamesA) : Option (Api_NamesA × Int) := ((
    ((
      (r10_Valid K p0).bind fun r5 => 
      if (!r5) then
        some true
      else
        (r10_Valid K p1).bind fun r8 => 
        some (!r8)) : Option Bool).bind (fun v3_0 => 
    if v3_0 then
      outM (
        some ((Api_NamesA.mk false []), (3 : Int)))
    else
      some (.go ()))) : Option (Out Unit _)).bind (Out.fin fun _ => 
  (r10_join K p0 p1).bind fun r11 => 
  some (r11, (0 : Int)))
set_option maxHeartbeats 4000000 in
theorem r10_Union_ok {K : Nat} {p0 : Api_NamesA} {p1 : Api_NamesA} {r : Api_NamesA × Int} (h : r10_Union K p0 p1 = some r) : Cn Tryz.prog 44 [aggV p0.enc, aggV p1.enc] (.tup [aggV r.1.enc, .d (.val (.int .i64 r.2))]) := by
  refine Cn.ofA mixed Tryz.func44 rfl Tryz.call44 Tryz.ntmps44 Tryz.results44 (by simp) (by simp only [go_sem, reduceEqDiff, reduceAdd, reduceSub, reduceMul, reduceLeDiff, reduceLT, Nat.reduceBEq, reduceIte]) fun hfit => ?_
  unfold r10_Union at h
  refine AW.kp [] [0, 1] ?_
  refine AW.op mixed ?_
  refine AW.kp [0, 1, 2] [2, 3, 4] ?_
  refine AW.one ?_
  refine obindE h fun oJ2 h hJ2 => ?_
  refine AW.join (S := Unit) (fun _ => [(2, .ptr 0 2 0 0), (3, .ptr 1 2 0 0), (4, .ptr 2 2 0 0)]) (fun _ => [some ⟨2, [[.d (.val (.bool p0.all)), .d (slD strV p0.list)]]⟩, some ⟨2, [[.d (.val (.bool p1.all)), .d (slD strV p1.list)]]⟩, some ⟨2, [[.d (.val (.bool false)), .d (.val (.slice none 0 0))]]⟩]) (fun x => oJ2 = .go x) ?_ ?_
  · skip
    refine AW.one ?_
    refine obindE h fun oJ4 h hJ4 => ?_
    refine AW.join (S := Bool) (fun v3_0 => [(2, .ptr 0 2 0 0), (3, .ptr 1 2 0 0), (4, .ptr 2 2 0 0), (13, .d (.val (.bool v3_0)))]) (fun v3_0 => [some ⟨2, [[.d (.val (.bool p0.all)), .d (slD strV p0.list)]]⟩, some ⟨2, [[.d (.val (.bool p1.all)), .d (slD strV p1.list)]]⟩, some ⟨2, [[.d (.val (.bool false)), .d (.val (.slice none 0 0))]]⟩]) (fun x => x = oJ4) ?_ ?_
    · skip
      refine AW.rg mixed ?_
      apply obindE h; intro r5 hx6 h
      have hc := nx (r10_Valid_ok (h := hx6))
      refine callP hc ?_
      refine splitK_intro (fun hb7 => ?_) (fun hb7 => ?_)
      · have h := ifT hb7 h
        try simp only [go_sem, reduceEqDiff, reduceAdd, reduceSub, reduceMul, reduceLeDiff, reduceLT, Nat.reduceBEq, reduceIte, hb7]
        refine JoinQ.mk true [0, 1, 2] (Option.some.inj h) (by simp only [go_sem, reduceEqDiff, reduceAdd, reduceSub, reduceMul, reduceLeDiff, reduceLT, Nat.reduceBEq, reduceIte, hb7])
      have h := ifF hb7 h
      try simp only [go_sem, reduceEqDiff, reduceAdd, reduceSub, reduceMul, reduceLeDiff, reduceLT, Nat.reduceBEq, reduceIte, hb7]
      apply obindE h; intro r8 hx9 h
      have hc := nx (r10_Valid_ok (h := hx9))
      refine callK_pure hc (by simp only [go_sem, reduceEqDiff, reduceAdd, reduceSub, reduceMul, reduceLeDiff, reduceLT, Nat.reduceBEq, reduceIte]) ?_
      try simp only [go_sem, reduceEqDiff, reduceAdd, reduceSub, reduceMul, reduceLeDiff, reduceLT, Nat.reduceBEq, reduceIte, hb7]
      refine JoinQ.mk (!r8) [0, 1, 2] (Option.some.inj h) (by simp only [go_sem, reduceEqDiff, reduceAdd, reduceSub, reduceMul, reduceLeDiff, reduceLT, Nat.reduceBEq, reduceIte, hb7])
    rintro v3_0 rfl
    have h := hJ4
    try dsimp only [Out.fin] at h
    refine nz ?_
    refine AW.ts v3_0 (fun hb10 => ?_) (fun hb10 => ?_)
    · have h := ifT hb10 h
      refine AW.op mixed ?_
      refine AW.ret ?_
      obtain ⟨_, h, ho⟩ := outM_some h
      rw [ho, Out.fin_out] at hJ2
      have h := h.trans hJ2
      obtain rfl := Option.some.inj h
      refine nz ?_
      exact .tupL ⟨.aggL ⟨.same _, .nil, trivial⟩, .same _, trivial⟩
    have h := ifF hb10 h
    refine AW.sk ?_
    exact JoinQ.ar () [0, 1, 2] (Option.some.inj h).symm
  rintro ⟨⟩ rfl
  have h := hJ2
  try dsimp only [Out.fin] at h
  refine nz ?_
  refine AW.op mixed ?_
  apply obindE h; intro r11 hx12 h
  have hc := nx (r10_join_ok (h := hx12))
  refine callP hc ?_
  refine AW.ret ?_
  obtain rfl := Option.some.inj h
  refine nz ?_
  exact .same _
/-! ### isochrone/isochronelaw18.swapped -/
def law18_swapped (K : Nat) (p0 : Api_NamesA) (p1 : ByteArray) (p2 : ByteArray) : Option Api_NamesA := ((iter (S := Int × Api_NamesA) (R := Api_NamesA) K (fun again (i5_0, i5_1) => 
    if (decide (i5_0 < (p0.list.length : Int))) then
      ((
        (idx p0.list i5_0).bind fun x12 => 
        ((
          if (x12.toList == p1.toList) then
            some p2
          else
            if (x12.toList == p2.toList) then
              some p1
            else
              (catO p1 (⟨#[39]⟩ : ByteArray)).bind fun s18 => 
              if (x12.toList == s18.toList) then
                (catO p2 (⟨#[39]⟩ : ByteArray)).bind fun s21 => 
                some s21
              else
                (catO p2 (⟨#[39]⟩ : ByteArray)).bind fun s23 => 
                if (x12.toList == s23.toList) then
                  (catO p1 (⟨#[39]⟩ : ByteArray)).bind fun s26 => 
                  some s26
                else
                  some x12) : Option ByteArray).bind (fun v14_0 => 
        (r10_Only K v14_0).bind fun r28 => 
        (r10_Union K (Api_NamesA.mk false i5_1.list) r28).bind fun r30 => 
        some (Api_NamesA.mk i5_1.all r30.1.list))) : Option Api_NamesA).bind (fun v10_0 => 
      again (IntKind.wrap .i64 (i5_0 + (1 : Int)), v10_0))
    else
      some i5_1) ((0 : Int), (Api_NamesA.mk p0.all []))) : Option Api_NamesA).bind (fun e6_0 => 
  some e6_0)
set_option maxHeartbeats 4000000 in
theorem law18_swapped_ok {K : Nat} {p0 : Api_NamesA} {p1 : ByteArray} {p2 : ByteArray} {r : Api_NamesA} (h : law18_swapped K p0 p1 p2 = some r) : Cn Tryz.prog 16 [aggV p0.enc, .d (.val (.string p1)), .d (.val (.string p2))] (aggV r.enc) := by
  refine Cn.ofA mixed Tryz.func16 rfl Tryz.call16 Tryz.ntmps16 Tryz.results16 (by simp) (by simp only [go_sem, reduceEqDiff, reduceAdd, reduceSub, reduceMul, reduceLeDiff, reduceLT, Nat.reduceBEq, reduceIte]) fun hfit => ?_
  unfold law18_swapped at h
  refine AW.kp [] [0, 1, 2] ?_
  refine AW.op mixed ?_
  refine AW.kp [0, 1] [1, 2, 3, 6] ?_
  refine AW.op mixed ?_
  refine AW.kp [0, 1, 5] [1, 2, 3, 6, 7] ?_
  refine AW.one ?_
  refine AW.op mixed ?_
  refine AW.kp [0, 1, 2] [1, 2, 3, 6, 7, 8] ?_
  refine AW.cutS [0, 1, 2] [] [] [(2, ⟨2, [[.d (.val (.bool p0.all)), .d (slD strV [])]]⟩)] [(1, .d (.val (.string p1))), (2, .d (.val (.string p2))), (3, .ptr 0 2 0 0), (6, .ptr 1 2 0 0), (7, .ptr 2 2 0 0), (8, .d (.val (.int .i64 (0 : Int))))] [some ⟨2, [[.d (.val (.bool p0.all)), .d (slD strV p0.list)]]⟩, some ⟨2, [[.d (.val (.bool false)), .d (.val (.slice none 0 0))]]⟩, some ⟨2, [[.d (.val (.bool p0.all)), .d (slD strV [])]]⟩] (by simp only [go_sem, reduceEqDiff, reduceAdd, reduceSub, reduceMul, reduceLeDiff, reduceLT, Nat.reduceBEq, reduceIte, sealL_cons, sealL_nil]) (by simp only [go_sem, reduceEqDiff, reduceAdd, reduceSub, reduceMul, reduceLeDiff, reduceLT, Nat.reduceBEq, reduceIte, sealH_cons, sealH_nil]; exact ⟨⟨.same _, .nil, trivial⟩, trivial⟩) (by simp only [go_sem, reduceEqDiff, reduceAdd, reduceSub, reduceMul, reduceLeDiff, reduceLT, Nat.reduceBEq, reduceIte]) ?_
  refine obindE h fun oJ8 h hJ8 => ?_
  refine AW.join (S := Api_NamesA) (fun e6_0 => [(6, .ptr 0 2 0 0), (7, .ptr 1 2 0 0)]) (fun e6_0 => [some ⟨2, [[.d (.val (.bool false)), .d (.val (.slice none 0 0))]]⟩, some ⟨2, [[.d (.val (.bool e6_0.all)), .d (slD strV e6_0.list)]]⟩]) (fun x => x = oJ8) ?_ ?_
  · refine AW.block ?_
    refine AW.iter (S := Int × Api_NamesA) (fun (i5_0, i5_1) => [(1, .d (.val (.string p1))), (2, .d (.val (.string p2))), (3, .ptr 0 2 0 0), (6, .ptr 1 2 0 0), (7, .ptr 2 2 0 0), (8, .d (.val (.int .i64 i5_0)))]) (fun (i5_0, i5_1) => [some ⟨2, [[.d (.val (.bool p0.all)), .d (slD strV p0.list)]]⟩, some ⟨2, [[.d (.val (.bool false)), .d (.val (.slice none 0 0))]]⟩, some ⟨2, [[.d (.val (.bool i5_1.all)), .d (slD strV i5_1.list)]]⟩]) [0, 1, 2] h (by simp only [go_sem, reduceEqDiff, reduceAdd, reduceSub, reduceMul, reduceLeDiff, reduceLT, Nat.reduceBEq, reduceIte]) ?_
    rintro again ⟨i5_0, i5_1⟩ h
    try dsimp only at h
    refine AW.one ?_
    refine AW.op mixed ?_
    refine AW.kp [0, 1, 2] [1, 2, 3, 6, 7, 8, 19] ?_
    refine AW.ts (decide (i5_0 < (p0.list.length : Int))) (fun hb9 => ?_) (fun hb9 => ?_)
    · have h := ifT hb9 h
      refine AW.sk ?_
      refine AW.kp [0, 1, 2] [1, 2, 3, 6, 7, 8] ?_
      refine AW.one ?_
      refine obindE h fun oJ11 h hJ11 => ?_
      refine AW.join (S := Api_NamesA) (fun v10_0 => [(1, .d (.val (.string p1))), (2, .d (.val (.string p2))), (3, .ptr 0 2 0 0), (6, .ptr 1 2 0 0), (7, .ptr 2 2 0 0), (8, .d (.val (.int .i64 i5_0)))]) (fun v10_0 => [some ⟨2, [[.d (.val (.bool p0.all)), .d (slD strV p0.list)]]⟩, some ⟨2, [[.d (.val (.bool false)), .d (.val (.slice none 0 0))]]⟩, some ⟨2, [[.d (.val (.bool v10_0.all)), .d (slD strV v10_0.list)]]⟩]) (fun x => x = oJ11) ?_ ?_
      · skip
        refine AW.block ?_
        refine AW.one ?_
        refine AW.reg mixed (by kernel_rfl) ?_
        apply obindE h; intro x12 hx13 h
        try simp only [go_sem, reduceEqDiff, reduceAdd, reduceSub, reduceMul, reduceLeDiff, reduceLT, Nat.reduceBEq, reduceIte, (idx_some hx13).1, (idx_some hx13).2]
        refine AW.cut [0, 1, 2] [(1, .d (.val (.string p1))), (2, .d (.val (.string p2))), (3, .ptr 0 2 0 0), (6, .ptr 1 2 0 0), (7, .ptr 2 2 0 0), (8, .d (.val (.int .i64 i5_0))), (9, .d (.val (.string x12)))] [some ⟨2, [[.d (.val (.bool p0.all)), .d (slD strV p0.list)]]⟩, some ⟨2, [[.d (.val (.bool false)), .d (.val (.slice none 0 0))]]⟩, some ⟨2, [[.d (.val (.bool i5_1.all)), .d (slD strV i5_1.list)]]⟩] (by simp only [go_sem, reduceEqDiff, reduceAdd, reduceSub, reduceMul, reduceLeDiff, reduceLT, Nat.reduceBEq, reduceIte, (idx_some hx13).1, (idx_some hx13).2]) ?_
        refine AW.one ?_
        refine obindE h fun oJ15 h hJ15 => ?_
        refine AW.join (S := ByteArray) (fun v14_0 => [(1, .d (.val (.string p1))), (2, .d (.val (.string p2))), (3, .ptr 0 2 0 0), (6, .ptr 1 2 0 0), (7, .ptr 2 2 0 0), (8, .d (.val (.int .i64 i5_0))), (9, .d (.val (.string v14_0)))]) (fun v14_0 => [some ⟨2, [[.d (.val (.bool p0.all)), .d (slD strV p0.list)]]⟩, some ⟨2, [[.d (.val (.bool false)), .d (.val (.slice none 0 0))]]⟩, some ⟨2, [[.d (.val (.bool i5_1.all)), .d (slD strV i5_1.list)]]⟩]) (fun x => x = oJ15) ?_ ?_
        · skip
          refine AW.op mixed ?_
          refine AW.kp [0, 1, 2] [1, 2, 3, 6, 7, 8, 9, 27] ?_
          refine AW.block ?_
          refine AW.op mixed ?_
          refine AW.kp [0, 1, 2] [1, 2, 3, 6, 7, 8, 9, 27, 28] ?_
          refine AW.ts (x12.toList == p1.toList) (fun hb16 => ?_) (fun hb16 => ?_)
          · have h := ifT hb16 h
            refine AW.rg mixed ?_
            exact JoinQ.ar p2 [0, 1, 2] (Option.some.inj h)
          have h := ifF hb16 h
          refine AW.op mixed ?_
          refine AW.kp [0, 1, 2] [1, 2, 3, 6, 7, 8, 9, 27, 32] ?_
          refine AW.ts (x12.toList == p2.toList) (fun hb17 => ?_) (fun hb17 => ?_)
          · have h := ifT hb17 h
            refine AW.rg mixed ?_
            exact JoinQ.ar p1 [0, 1, 2] (Option.some.inj h)
          have h := ifF hb17 h
          refine AW.op mixed ?_
          apply obindE h; intro s18 hx19 h
          try simp only [go_sem, reduceEqDiff, reduceAdd, reduceSub, reduceMul, reduceLeDiff, reduceLT, Nat.reduceBEq, reduceIte, bop_cat (P := Tryz.prog) hx19]
          refine AW.cut [0, 1, 2] [(1, .d (.val (.string p1))), (2, .d (.val (.string p2))), (3, .ptr 0 2 0 0), (6, .ptr 1 2 0 0), (7, .ptr 2 2 0 0), (8, .d (.val (.int .i64 i5_0))), (9, .d (.val (.string x12))), (27, .d (.val (.string x12))), (36, .d (.val (.bool (x12.toList == s18.toList))))] [some ⟨2, [[.d (.val (.bool p0.all)), .d (slD strV p0.list)]]⟩, some ⟨2, [[.d (.val (.bool false)), .d (.val (.slice none 0 0))]]⟩, some ⟨2, [[.d (.val (.bool i5_1.all)), .d (slD strV i5_1.list)]]⟩] (by simp only [go_sem, reduceEqDiff, reduceAdd, reduceSub, reduceMul, reduceLeDiff, reduceLT, Nat.reduceBEq, reduceIte, bop_cat (P := Tryz.prog) hx19]) ?_
          refine AW.ts (x12.toList == s18.toList) (fun hb20 => ?_) (fun hb20 => ?_)
          · have h := ifT hb20 h
            refine AW.rg mixed ?_
            apply obindE h; intro s21 hx22 h
            try simp only [go_sem, reduceEqDiff, reduceAdd, reduceSub, reduceMul, reduceLeDiff, reduceLT, Nat.reduceBEq, reduceIte, bop_cat (P := Tryz.prog) hx22]
            refine JoinQ.mk s21 [0, 1, 2] (Option.some.inj h) (by simp only [go_sem, reduceEqDiff, reduceAdd, reduceSub, reduceMul, reduceLeDiff, reduceLT, Nat.reduceBEq, reduceIte, bop_cat (P := Tryz.prog) hx22])
          have h := ifF hb20 h
          refine AW.op mixed ?_
          apply obindE h; intro s23 hx24 h
          try simp only [go_sem, reduceEqDiff, reduceAdd, reduceSub, reduceMul, reduceLeDiff, reduceLT, Nat.reduceBEq, reduceIte, bop_cat (P := Tryz.prog) hx24]
          refine AW.cut [0, 1, 2] [(1, .d (.val (.string p1))), (2, .d (.val (.string p2))), (3, .ptr 0 2 0 0), (6, .ptr 1 2 0 0), (7, .ptr 2 2 0 0), (8, .d (.val (.int .i64 i5_0))), (9, .d (.val (.string x12))), (42, .d (.val (.bool (x12.toList == s23.toList))))] [some ⟨2, [[.d (.val (.bool p0.all)), .d (slD strV p0.list)]]⟩, some ⟨2, [[.d (.val (.bool false)), .d (.val (.slice none 0 0))]]⟩, some ⟨2, [[.d (.val (.bool i5_1.all)), .d (slD strV i5_1.list)]]⟩] (by simp only [go_sem, reduceEqDiff, reduceAdd, reduceSub, reduceMul, reduceLeDiff, reduceLT, Nat.reduceBEq, reduceIte, bop_cat (P := Tryz.prog) hx24]) ?_
          refine AW.ts (x12.toList == s23.toList) (fun hb25 => ?_) (fun hb25 => ?_)
          · have h := ifT hb25 h
            refine AW.rg mixed ?_
            apply obindE h; intro s26 hx27 h
            try simp only [go_sem, reduceEqDiff, reduceAdd, reduceSub, reduceMul, reduceLeDiff, reduceLT, Nat.reduceBEq, reduceIte, bop_cat (P := Tryz.prog) hx27]
            refine JoinQ.mk s26 [0, 1, 2] (Option.some.inj h) (by simp only [go_sem, reduceEqDiff, reduceAdd, reduceSub, reduceMul, reduceLeDiff, reduceLT, Nat.reduceBEq, reduceIte, bop_cat (P := Tryz.prog) hx27])
          have h := ifF hb25 h
          refine AW.sk ?_
          exact JoinQ.ar x12 [0, 1, 2] (Option.some.inj h)
        rintro v14_0 rfl
        have h := hJ15
        try dsimp only [Out.fin] at h
        refine nz ?_
        refine AW.op mixed ?_
        apply obindE h; intro r28 hx29 h
        have hc := nx (r10_Only_ok (h := hx29))
        refine callD hc ?_
        apply obindE h; intro r30 hx31 h
        have hc := nx (r10_Union_ok (h := hx31))
        refine callD hc ?_
        refine AW.kp [0, 1, 2, 12] [1, 2, 3, 6, 7, 8, 10] ?_
        refine AW.rg mixed ?_
        exact JoinQ.ar (Api_NamesA.mk i5_1.all r30.1.list) [0, 1, 2] (Option.some.inj h)
      rintro v10_0 rfl
      have h := hJ11
      try dsimp only [Out.fin] at h
      refine nz ?_
      refine AW.rg mixed ?_
      exact NextQ.ar (IntKind.wrap .i64 (i5_0 + (1 : Int)), v10_0) [0, 1, 2] h
    have h := ifF hb9 h
    refine AW.ex ?_
    exact JoinQ.ar i5_1 [1, 2] (Option.some.inj h)
  rintro e6_0 rfl
  have h := hJ8
  try dsimp only [Out.fin] at h
  refine nz ?_
  refine AW.kp [0, 1] [6, 7] ?_
  refine AW.op mixed ?_
  refine AW.ret ?_
  obtain rfl := Option.some.inj h
  refine nz ?_
  exact .same _
/-! ### isochrone/isochroneref08.Size -/
def r08_Size_body (K : Nat) (self8 : NodeA → Option Int) (p0 : NodeA) : Option Int := ((iter (S := Int × Int) (R := Int) K (fun again (i1_0, i1_1) => 
    if (decide (i1_1 < (p0.kids.length : Int))) then
      (idx p0.kids i1_1).bind fun x6 => 
      (self8 (x6)).bind fun r8 => 
      again (IntKind.wrap .i64 (i1_0 + r8), IntKind.wrap .i64 (i1_1 + (1 : Int)))
    else
      some i1_0) ((1 : Int), (0 : Int))) : Option Int).bind (fun e2_0 => 
  some e2_0)
set_option maxHeartbeats 4000000 in
theorem r08_Size_step (K : Nat) (self8 : NodeA → Option Int) (hself8 : ∀ (q : NodeA) (r : Int), self8 q = some r → Cn Tryz.prog 8 [aggV q.enc] (.d (.val (.int .i64 r)))) (p0 : NodeA) (r : Int) (h : r08_Size_body K self8 p0 = some r) : Cn Tryz.prog 8 [aggV p0.enc] (.d (.val (.int .i64 r))) := by
  refine Cn.ofA mixed Tryz.func8 rfl Tryz.call8 Tryz.ntmps8 Tryz.results8 (by simp) (by simp only [go_sem, reduceEqDiff, reduceAdd, reduceSub, reduceMul, reduceLeDiff, reduceLT, Nat.reduceBEq, reduceIte]) fun hfit => ?_
  unfold r08_Size_body at h
  refine AW.kp [] [0] ?_
  refine AW.op mixed ?_
  refine AW.kp [0] [1] ?_
  refine AW.op mixed ?_
  refine AW.kp [0] [1, 3] ?_
  refine AW.one ?_
  refine AW.op mixed ?_
  refine AW.kp [0] [1, 3, 4] ?_
  refine obindE h fun oJ4 h hJ4 => ?_
  refine AW.join (S := Int) (fun e2_0 => [(3, .d (.val (.int .i64 e2_0)))]) (fun e2_0 => []) (fun x => x = oJ4) ?_ ?_
  · refine AW.block ?_
    refine AW.iter (S := Int × Int) (fun (i1_0, i1_1) => [(1, .ptr 0 6 0 0), (3, .d (.val (.int .i64 i1_0))), (4, .d (.val (.int .i64 i1_1)))]) (fun (i1_0, i1_1) => [some ⟨6, [[.d (.val (.int .i64 p0.op)), .d (.val (.string p0.name)), .d (.val (.bool p0.num.neg)), .d (slD u32V p0.num.num), .d (slD u32V p0.num.den), .d (slD NodeA.enc p0.kids)]]⟩]) [0] h (by simp only [go_sem, reduceEqDiff, reduceAdd, reduceSub, reduceMul, reduceLeDiff, reduceLT, Nat.reduceBEq, reduceIte]) ?_
    rintro again ⟨i1_0, i1_1⟩ h
    try dsimp only at h
    refine AW.one ?_
    refine AW.op mixed ?_
    refine AW.kp [0] [1, 3, 4, 9] ?_
    refine AW.ts (decide (i1_1 < (p0.kids.length : Int))) (fun hb5 => ?_) (fun hb5 => ?_)
    · have h := ifT hb5 h
      refine AW.sk ?_
      refine AW.kp [0] [1, 3, 4] ?_
      refine AW.one ?_
      refine AW.block ?_
      refine AW.reg mixed (by kernel_rfl) ?_
      apply obindE h; intro x6 hx7 h
      try simp only [go_sem, reduceEqDiff, reduceAdd, reduceSub, reduceMul, reduceLeDiff, reduceLT, Nat.reduceBEq, reduceIte, (idx_some hx7).1, (idx_some hx7).2]
      apply obindE h; intro r8 hx9 h
      have hc := nx (hself8 _ _ hx9)
      refine callK_pure hc (by simp only [go_sem, reduceEqDiff, reduceAdd, reduceSub, reduceMul, reduceLeDiff, reduceLT, Nat.reduceBEq, reduceIte]) ?_
      try simp only [go_sem, reduceEqDiff, reduceAdd, reduceSub, reduceMul, reduceLeDiff, reduceLT, Nat.reduceBEq, reduceIte, (idx_some hx7).1, (idx_some hx7).2]
      refine AW.cut [0] [(1, .ptr 0 6 0 0), (3, .d (.val (.int .i64 (IntKind.wrap .i64 (i1_0 + r8))))), (4, .d (.val (.int .i64 i1_1)))] [some ⟨6, [[.d (.val (.int .i64 p0.op)), .d (.val (.string p0.name)), .d (.val (.bool p0.num.neg)), .d (slD u32V p0.num.num), .d (slD u32V p0.num.den), .d (slD NodeA.enc p0.kids)]]⟩] (by simp only [go_sem, reduceEqDiff, reduceAdd, reduceSub, reduceMul, reduceLeDiff, reduceLT, Nat.reduceBEq, reduceIte, (idx_some hx7).1, (idx_some hx7).2]) ?_
      refine AW.rg mixed ?_
      exact NextQ.ar (IntKind.wrap .i64 (i1_0 + r8), IntKind.wrap .i64 (i1_1 + (1 : Int))) [0] h
    have h := ifF hb5 h
    refine AW.ex ?_
    exact JoinQ.ar i1_0 [] (Option.some.inj h)
  rintro e2_0 rfl
  have h := hJ4
  try dsimp only [Out.fin] at h
  refine nz ?_
  refine AW.kp [] [3] ?_
  refine AW.op mixed ?_
  refine AW.ret ?_
  obtain rfl := Option.some.inj h
  refine nz ?_
  exact .same _
def r08_Size (K : Nat) (p0 : NodeA) : Option Int := iter K (fun self q => r08_Size_body K self q) p0
theorem key_r08_Size {K : Nat} (k : Nat) : (∀ (q : NodeA) (r : Int), iter k (fun self q => r08_Size_body K self q) q = some r → Cn Tryz.prog 8 [aggV q.enc] (.d (.val (.int .i64 r)))) := by
  induction k with
  | zero => exact fun q r h => by cases h
  | succ k ih => exact fun q r h => r08_Size_step K _ ih q r h
theorem r08_Size_ok {K : Nat} {p0 : NodeA} {r : Int} (h : r08_Size K p0 = some r) : Cn Tryz.prog 8 [aggV p0.enc] (.d (.val (.int .i64 r))) := (key_r08_Size K) p0 r h
/-! ### isochrone/isochroneref08.Sort -/
def r08_Sort (K : Nat) (p0 : Int) : Option Int := ((
    if (decide ((1 : Int) ≤ p0)) then
      some (decide (p0 ≤ (13 : Int)))
    else
      some false) : Option Bool).bind (fun v1_0 => 
  if v1_0 then
    some (1 : Int)
  else
    ((
      if (decide ((20 : Int) ≤ p0)) then
        some (decide (p0 ≤ (39 : Int)))
      else
        some false) : Option Bool).bind (fun v5_0 => 
    if v5_0 then
      some (2 : Int)
    else
      ((
        if (p0 == (55 : Int)) then
          some true
        else
          some (p0 == (56 : Int))) : Option Bool).bind (fun v9_0 => 
      if v9_0 then
        some (4 : Int)
      else
        ((
          if (decide ((50 : Int) ≤ p0)) then
            some (decide (p0 ≤ (62 : Int)))
          else
            some false) : Option Bool).bind (fun v13_0 => 
        if v13_0 then
          some (3 : Int)
        else
          some (0 : Int)))))
set_option maxHeartbeats 4000000 in
theorem r08_Sort_ok {K : Nat} {p0 : Int} {r : Int} (h : r08_Sort K p0 = some r) : Cn Tryz.prog 18 [.d (.val (.int .i64 p0))] (.d (.val (.int .i64 r))) := by
  refine Cn.ofA mixed Tryz.func18 rfl Tryz.call18 Tryz.ntmps18 Tryz.results18 (by simp) (by simp only [go_sem, reduceEqDiff, reduceAdd, reduceSub, reduceMul, reduceLeDiff, reduceLT, Nat.reduceBEq, reduceIte]) fun hfit => ?_
  unfold r08_Sort at h
  refine AW.kp [] [0] ?_
  refine AW.op mixed ?_
  refine AW.kp [] [0] ?_
  refine AW.one ?_
  refine AW.block ?_
  refine AW.one ?_
  refine obindE h fun oJ2 h hJ2 => ?_
  refine AW.join (S := Bool) (fun v1_0 => [(0, .d (.val (.int .i64 p0))), (3, .d (.val (.bool v1_0)))]) (fun v1_0 => []) (fun x => x = oJ2) ?_ ?_
  · skip
    refine AW.rg mixed ?_
    refine splitK_intro (fun hb3 => ?_) (fun hb3 => ?_)
    · have h := ifT hb3 h
      try simp only [go_sem, reduceEqDiff, reduceAdd, reduceSub, reduceMul, reduceLeDiff, reduceLT, Nat.reduceBEq, reduceIte, hb3]
      refine JoinQ.mk (decide (p0 ≤ (13 : Int))) [] (Option.some.inj h) (by simp only [go_sem, reduceEqDiff, reduceAdd, reduceSub, reduceMul, reduceLeDiff, reduceLT, Nat.reduceBEq, reduceIte, hb3])
    have h := ifF hb3 h
    try simp only [go_sem, reduceEqDiff, reduceAdd, reduceSub, reduceMul, reduceLeDiff, reduceLT, Nat.reduceBEq, reduceIte, hb3]
    refine JoinQ.mk false [] (Option.some.inj h) (by simp only [go_sem, reduceEqDiff, reduceAdd, reduceSub, reduceMul, reduceLeDiff, reduceLT, Nat.reduceBEq, reduceIte, hb3])
  rintro v1_0 rfl
  have h := hJ2
  try dsimp only [Out.fin] at h
  refine nz ?_
  refine AW.ts v1_0 (fun hb4 => ?_) (fun hb4 => ?_)
  · have h := ifT hb4 h
    refine AW.op mixed ?_
    refine AW.ret ?_
    obtain rfl := Option.some.inj h
    refine nz ?_
    exact .same _
  have h := ifF hb4 h
  refine AW.one ?_
  refine obindE h fun oJ6 h hJ6 => ?_
  refine AW.join (S := Bool) (fun v5_0 => [(0, .d (.val (.int .i64 p0))), (10, .d (.val (.bool v5_0)))]) (fun v5_0 => []) (fun x => x = oJ6) ?_ ?_
  · skip
    refine AW.rg mixed ?_
    refine splitK_intro (fun hb7 => ?_) (fun hb7 => ?_)
    · have h := ifT hb7 h
      try simp only [go_sem, reduceEqDiff, reduceAdd, reduceSub, reduceMul, reduceLeDiff, reduceLT, Nat.reduceBEq, reduceIte, hb7]
      refine JoinQ.mk (decide (p0 ≤ (39 : Int))) [] (Option.some.inj h) (by simp only [go_sem, reduceEqDiff, reduceAdd, reduceSub, reduceMul, reduceLeDiff, reduceLT, Nat.reduceBEq, reduceIte, hb7])
    have h := ifF hb7 h
    try simp only [go_sem, reduceEqDiff, reduceAdd, reduceSub, reduceMul, reduceLeDiff, reduceLT, Nat.reduceBEq, reduceIte, hb7]
    refine JoinQ.mk false [] (Option.some.inj h) (by simp only [go_sem, reduceEqDiff, reduceAdd, reduceSub, reduceMul, reduceLeDiff, reduceLT, Nat.reduceBEq, reduceIte, hb7])
  rintro v5_0 rfl
  have h := hJ6
  try dsimp only [Out.fin] at h
  refine nz ?_
  refine AW.ts v5_0 (fun hb8 => ?_) (fun hb8 => ?_)
  · have h := ifT hb8 h
    refine AW.op mixed ?_
    refine AW.ret ?_
    obtain rfl := Option.some.inj h
    refine nz ?_
    exact .same _
  have h := ifF hb8 h
  refine AW.one ?_
  refine obindE h fun oJ10 h hJ10 => ?_
  refine AW.join (S := Bool) (fun v9_0 => [(0, .d (.val (.int .i64 p0))), (17, .d (.val (.bool v9_0)))]) (fun v9_0 => []) (fun x => x = oJ10) ?_ ?_
  · skip
    refine AW.rg mixed ?_
    refine splitK_intro (fun hb11 => ?_) (fun hb11 => ?_)
    · have h := ifT hb11 h
      try simp only [go_sem, reduceEqDiff, reduceAdd, reduceSub, reduceMul, reduceLeDiff, reduceLT, Nat.reduceBEq, reduceIte, hb11]
      refine JoinQ.mk true [] (Option.some.inj h) (by simp only [go_sem, reduceEqDiff, reduceAdd, reduceSub, reduceMul, reduceLeDiff, reduceLT, Nat.reduceBEq, reduceIte, hb11])
    have h := ifF hb11 h
    try simp only [go_sem, reduceEqDiff, reduceAdd, reduceSub, reduceMul, reduceLeDiff, reduceLT, Nat.reduceBEq, reduceIte, hb11]
    refine JoinQ.mk (p0 == (56 : Int)) [] (Option.some.inj h) (by simp only [go_sem, reduceEqDiff, reduceAdd, reduceSub, reduceMul, reduceLeDiff, reduceLT, Nat.reduceBEq, reduceIte, hb11])
  rintro v9_0 rfl
  have h := hJ10
  try dsimp only [Out.fin] at h
  refine nz ?_
  refine AW.ts v9_0 (fun hb12 => ?_) (fun hb12 => ?_)
  · have h := ifT hb12 h
    refine AW.op mixed ?_
    refine AW.ret ?_
    obtain rfl := Option.some.inj h
    refine nz ?_
    exact .same _
  have h := ifF hb12 h
  refine AW.one ?_
  refine obindE h fun oJ14 h hJ14 => ?_
  refine AW.join (S := Bool) (fun v13_0 => [(24, .d (.val (.bool v13_0)))]) (fun v13_0 => []) (fun x => x = oJ14) ?_ ?_
  · skip
    refine AW.rg mixed ?_
    refine splitK_intro (fun hb15 => ?_) (fun hb15 => ?_)
    · have h := ifT hb15 h
      try simp only [go_sem, reduceEqDiff, reduceAdd, reduceSub, reduceMul, reduceLeDiff, reduceLT, Nat.reduceBEq, reduceIte, hb15]
      refine JoinQ.mk (decide (p0 ≤ (62 : Int))) [] (Option.some.inj h) (by simp only [go_sem, reduceEqDiff, reduceAdd, reduceSub, reduceMul, reduceLeDiff, reduceLT, Nat.reduceBEq, reduceIte, hb15])
    have h := ifF hb15 h
    try simp only [go_sem, reduceEqDiff, reduceAdd, reduceSub, reduceMul, reduceLeDiff, reduceLT, Nat.reduceBEq, reduceIte, hb15]
    refine JoinQ.mk false [] (Option.some.inj h) (by simp only [go_sem, reduceEqDiff, reduceAdd, reduceSub, reduceMul, reduceLeDiff, reduceLT, Nat.reduceBEq, reduceIte, hb15])
  rintro v13_0 rfl
  have h := hJ14
  try dsimp only [Out.fin] at h
  refine nz ?_
  refine AW.ts v13_0 (fun hb16 => ?_) (fun hb16 => ?_)
  · have h := ifT hb16 h
    refine AW.op mixed ?_
    refine AW.ret ?_
    obtain rfl := Option.some.inj h
    refine nz ?_
    exact .same _
  have h := ifF hb16 h
  refine AW.sk ?_
  refine AW.kp [] [] ?_
  refine AW.op mixed ?_
  refine AW.ret ?_
  obtain rfl := Option.some.inj h
  refine nz ?_
  exact .same _
/-! ### isochrone/isochroneref10.anywhere -/
def r10_anywhere_body (K : Nat) (self88 : NodeA → Option Api_NamesA) (p0 : NodeA) : Option Api_NamesA := ((
    ((
      if (p0.op == (50 : Int)) then
        some (p0.op == (50 : Int))
      else
        if (p0.op == (52 : Int)) then
          some (p0.op == (52 : Int))
        else
          if (p0.op == (33 : Int)) then
            some (p0.op == (33 : Int))
          else
            some (p0.op == (34 : Int))) : Option Bool).bind (fun v3_0 => 
    if v3_0 then
      (r10_only K p0.name).bind fun r9 => 
      some (r9.all, r9.list)
    else
      if (p0.op == (51 : Int)) then
        (catO p0.name (⟨#[39]⟩ : ByteArray)).bind fun s12 => 
        (r10_only K s12).bind fun r14 => 
        some (r14.all, r14.list)
      else
        if (p0.op == (55 : Int)) then
          (r10_only K p0.name).bind fun r17 => 
          (catO p0.name (⟨#[39]⟩ : ByteArray)).bind fun s19 => 
          (r10_only K s19).bind fun r21 => 
          (r10_join K r17 r21).bind fun r23 => 
          some (r23.all, r23.list)
        else
          ((
            if (p0.op == (56 : Int)) then
              some (p0.op == (56 : Int))
            else
              if (p0.op == (61 : Int)) then
                some (p0.op == (61 : Int))
              else
                some (p0.op == (62 : Int))) : Option Bool).bind (fun v25_0 => 
          if v25_0 then
            some (true, [])
          else
            some (false, [])))) : Option (Bool × (List ByteArray))).bind (fun (v1_0, v1_1) => 
  ((iter (S := Int × Api_NamesA) (R := Api_NamesA) K (fun again (i30_0, i30_1) => 
    if (decide (i30_0 < (p0.kids.length : Int))) then
      (idx p0.kids i30_0).bind fun x35 => 
      (self88 (x35)).bind fun r37 => 
      (r10_join K i30_1 r37).bind fun r39 => 
      again (IntKind.wrap .i64 (i30_0 + (1 : Int)), r39)
    else
      some i30_1) ((0 : Int), (Api_NamesA.mk v1_0 v1_1))) : Option Api_NamesA).bind (fun e31_0 => 
  some e31_0))
set_option maxHeartbeats 4000000 in
theorem r10_anywhere_step (K : Nat) (self88 : NodeA → Option Api_NamesA) (hself88 : ∀ (q : NodeA) (r : Api_NamesA), self88 q = some r → Cn Tryz.prog 88 [aggV q.enc] (aggV r.enc)) (p0 : NodeA) (r : Api_NamesA) (h : r10_anywhere_body K self88 p0 = some r) : Cn Tryz.prog 88 [aggV p0.enc] (aggV r.enc) := by
  refine Cn.ofA mixed Tryz.func88 rfl Tryz.call88 Tryz.ntmps88 Tryz.results88 (by simp) (by simp only [go_sem, reduceEqDiff, reduceAdd, reduceSub, reduceMul, reduceLeDiff, reduceLT, Nat.reduceBEq, reduceIte]) fun hfit => ?_
  unfold r10_anywhere_body at h
  refine AW.kp [] [0] ?_
  refine AW.op mixed ?_
  refine AW.kp [0, 1] [1, 2] ?_
  refine AW.op mixed ?_
  refine AW.kp [0, 1, 2] [1, 2, 3] ?_
  refine AW.one ?_
  refine obindE h fun oJ2 h hJ2 => ?_
  refine AW.join (S := Bool × (List ByteArray)) (fun (v1_0, v1_1) => [(1, .ptr 0 6 0 0), (2, .ptr 1 2 0 0), (3, .ptr 2 2 0 0)]) (fun (v1_0, v1_1) => [some ⟨6, [[.d (.val (.int .i64 p0.op)), .d (.val (.string p0.name)), .d (.val (.bool p0.num.neg)), .d (slD u32V p0.num.num), .d (slD u32V p0.num.den), .d (slD NodeA.enc p0.kids)]]⟩, some ⟨2, [[.d (.val (.bool false)), .d (.val (.slice none 0 0))]]⟩, some ⟨2, [[.d (.val (.bool v1_0)), .d (slD strV v1_1)]]⟩]) (fun x => x = oJ2) ?_ ?_
  · skip
    refine AW.op mixed ?_
    refine AW.kp [0, 1, 2] [1, 2, 3, 6] ?_
    refine AW.block ?_
    refine AW.one ?_
    refine obindE h fun oJ4 h hJ4 => ?_
    refine AW.join (S := Bool) (fun v3_0 => [(1, .ptr 0 6 0 0), (2, .ptr 1 2 0 0), (3, .ptr 2 2 0 0), (6, .d (.val (.int .i64 p0.op))), (7, .d (.val (.bool v3_0)))]) (fun v3_0 => [some ⟨6, [[.d (.val (.int .i64 p0.op)), .d (.val (.string p0.name)), .d (.val (.bool p0.num.neg)), .d (slD u32V p0.num.num), .d (slD u32V p0.num.den), .d (slD NodeA.enc p0.kids)]]⟩, some ⟨2, [[.d (.val (.bool false)), .d (.val (.slice none 0 0))]]⟩, some ⟨2, [[.d (.val (.bool false)), .d (.val (.slice none 0 0))]]⟩]) (fun x => x = oJ4) ?_ ?_
    · skip
      refine AW.op mixed ?_
      refine AW.kp [0, 1, 2] [1, 2, 3, 6, 7] ?_
      refine AW.ts (p0.op == (50 : Int)) (fun hb5 => ?_) (fun hb5 => ?_)
      · have h := ifT hb5 h
        refine AW.sk ?_
        exact JoinQ.ar (p0.op == (50 : Int)) [0, 1, 2] (Option.some.inj h)
      have h := ifF hb5 h
      refine AW.op mixed ?_
      refine AW.kp [0, 1, 2] [1, 2, 3, 6, 7] ?_
      refine AW.ts (p0.op == (52 : Int)) (fun hb6 => ?_) (fun hb6 => ?_)
      · have h := ifT hb6 h
        refine AW.sk ?_
        exact JoinQ.ar (p0.op == (52 : Int)) [0, 1, 2] (Option.some.inj h)
      have h := ifF hb6 h
      refine AW.op mixed ?_
      refine AW.kp [0, 1, 2] [1, 2, 3, 6, 7] ?_
      refine AW.ts (p0.op == (33 : Int)) (fun hb7 => ?_) (fun hb7 => ?_)
      · have h := ifT hb7 h
        refine AW.sk ?_
        exact JoinQ.ar (p0.op == (33 : Int)) [0, 1, 2] (Option.some.inj h)
      have h := ifF hb7 h
      refine AW.rg mixed ?_
      exact JoinQ.ar (p0.op == (34 : Int)) [0, 1, 2] (Option.some.inj h)
    rintro v3_0 rfl
    have h := hJ4
    try dsimp only [Out.fin] at h
    refine nz ?_
    refine AW.ts v3_0 (fun hb8 => ?_) (fun hb8 => ?_)
    · have h := ifT hb8 h
      refine AW.rg mixed ?_
      apply obindE h; intro r9 hx10 h
      have hc := nx (r10_only_ok (h := hx10))
      refine callP hc ?_
      exact JoinQ.ar (r9.all, r9.list) [0, 1, 2] (Option.some.inj h)
    have h := ifF hb8 h
    refine AW.op mixed ?_
    refine AW.kp [0, 1, 2] [1, 2, 3, 6, 15] ?_
    refine AW.ts (p0.op == (51 : Int)) (fun hb11 => ?_) (fun hb11 => ?_)
    · have h := ifT hb11 h
      refine AW.rg mixed ?_
      apply obindE h; intro s12 hx13 h
      try simp only [go_sem, reduceEqDiff, reduceAdd, reduceSub, reduceMul, reduceLeDiff, reduceLT, Nat.reduceBEq, reduceIte, bop_cat (P := Tryz.prog) hx13]
      apply obindE h; intro r14 hx15 h
      have hc := nx (r10_only_ok (h := hx15))
      refine callK_pure hc (by simp only [go_sem, reduceEqDiff, reduceAdd, reduceSub, reduceMul, reduceLeDiff, reduceLT, Nat.reduceBEq, reduceIte]) ?_
      try simp only [go_sem, reduceEqDiff, reduceAdd, reduceSub, reduceMul, reduceLeDiff, reduceLT, Nat.reduceBEq, reduceIte, bop_cat (P := Tryz.prog) hx13]
      refine JoinQ.mk (r14.all, r14.list) [0, 1, 2] (Option.some.inj h) (by simp only [go_sem, reduceEqDiff, reduceAdd, reduceSub, reduceMul, reduceLeDiff, reduceLT, Nat.reduceBEq, reduceIte, bop_cat (P := Tryz.prog) hx13])
    have h := ifF hb11 h
    refine AW.op mixed ?_
    refine AW.kp [0, 1, 2] [1, 2, 3, 6, 21] ?_
    refine AW.ts (p0.op == (55 : Int)) (fun hb16 => ?_) (fun hb16 => ?_)
    · have h := ifT hb16 h
      refine AW.rg mixed ?_
      apply obindE h; intro r17 hx18 h
      have hc := nx (r10_only_ok (h := hx18))
      refine callD hc ?_
      apply obindE h; intro s19 hx20 h
      try simp only [go_sem, reduceEqDiff, reduceAdd, reduceSub, reduceMul, reduceLeDiff, reduceLT, Nat.reduceBEq, reduceIte, bop_cat (P := Tryz.prog) hx20]
      apply obindE h; intro r21 hx22 h
      have hc := nx (r10_only_ok (h := hx22))
      refine pcallK_intro hc (by simp only [go_sem, reduceEqDiff, reduceAdd, reduceSub, reduceMul, reduceLeDiff, reduceLT, Nat.reduceBEq, reduceIte]) ?_
      try simp only [go_sem, reduceEqDiff, reduceAdd, reduceSub, reduceMul, reduceLeDiff, reduceLT, Nat.reduceBEq, reduceIte, bop_cat (P := Tryz.prog) hx20]
      apply obindE h; intro r23 hx24 h
      have hc := nx (r10_join_ok (h := hx24))
      refine pcallK_intro hc (by simp only [go_sem, reduceEqDiff, reduceAdd, reduceSub, reduceMul, reduceLeDiff, reduceLT, Nat.reduceBEq, reduceIte]) ?_
      try simp only [go_sem, reduceEqDiff, reduceAdd, reduceSub, reduceMul, reduceLeDiff, reduceLT, Nat.reduceBEq, reduceIte, bop_cat (P := Tryz.prog) hx20]
      refine JoinQ.mk (r23.all, r23.list) [0, 1, 2] (Option.some.inj h) (by simp only [go_sem, reduceEqDiff, reduceAdd, reduceSub, reduceMul, reduceLeDiff, reduceLT, Nat.reduceBEq, reduceIte, bop_cat (P := Tryz.prog) hx20])
    have h := ifF hb16 h
    refine AW.one ?_
    refine obindE h fun oJ26 h hJ26 => ?_
    refine AW.join (S := Bool) (fun v25_0 => [(1, .ptr 0 6 0 0), (2, .ptr 1 2 0 0), (3, .ptr 2 2 0 0), (31, .d (.val (.bool v25_0)))]) (fun v25_0 => [some ⟨6, [[.d (.val (.int .i64 p0.op)), .d (.val (.string p0.name)), .d (.val (.bool p0.num.neg)), .d (slD u32V p0.num.num), .d (slD u32V p0.num.den), .d (slD NodeA.enc p0.kids)]]⟩, some ⟨2, [[.d (.val (.bool false)), .d (.val (.slice none 0 0))]]⟩, some ⟨2, [[.d (.val (.bool false)), .d (.val (.slice none 0 0))]]⟩]) (fun x => x = oJ26) ?_ ?_
    · skip
      refine AW.op mixed ?_
      refine AW.kp [0, 1, 2] [1, 2, 3, 6, 31] ?_
      refine AW.ts (p0.op == (56 : Int)) (fun hb27 => ?_) (fun hb27 => ?_)
      · have h := ifT hb27 h
        refine AW.sk ?_
        exact JoinQ.ar (p0.op == (56 : Int)) [0, 1, 2] (Option.some.inj h)
      have h := ifF hb27 h
      refine AW.op mixed ?_
      refine AW.kp [0, 1, 2] [1, 2, 3, 6, 31] ?_
      refine AW.ts (p0.op == (61 : Int)) (fun hb28 => ?_) (fun hb28 => ?_)
      · have h := ifT hb28 h
        refine AW.sk ?_
        exact JoinQ.ar (p0.op == (61 : Int)) [0, 1, 2] (Option.some.inj h)
      have h := ifF hb28 h
      refine AW.rg mixed ?_
      exact JoinQ.ar (p0.op == (62 : Int)) [0, 1, 2] (Option.some.inj h)
    rintro v25_0 rfl
    have h := hJ26
    try dsimp only [Out.fin] at h
    refine nz ?_
    refine AW.ts v25_0 (fun hb29 => ?_) (fun hb29 => ?_)
    · have h := ifT hb29 h
      refine AW.rg mixed ?_
      refine JoinQ.mkS (true, []) [0, 1, 2] [] [] [(2, ⟨2, [[.d (.val (.bool true)), .d (slD strV [])]]⟩)] (Option.some.inj h) (by simp only [go_sem, reduceEqDiff, reduceAdd, reduceSub, reduceMul, reduceLeDiff, reduceLT, Nat.reduceBEq, reduceIte, sealL_cons, sealL_nil]) (by simp only [go_sem, reduceEqDiff, reduceAdd, reduceSub, reduceMul, reduceLeDiff, reduceLT, Nat.reduceBEq, reduceIte, sealH_cons, sealH_nil]; exact ⟨⟨.same _, .nil, trivial⟩, trivial⟩) (by simp only [go_sem, reduceEqDiff, reduceAdd, reduceSub, reduceMul, reduceLeDiff, reduceLT, Nat.reduceBEq, reduceIte])
    have h := ifF hb29 h
    refine AW.sk ?_
    refine JoinQ.mkS (false, []) [0, 1, 2] [] [] [(2, ⟨2, [[.d (.val (.bool false)), .d (slD strV [])]]⟩)] (Option.some.inj h) (by simp only [go_sem, reduceEqDiff, reduceAdd, reduceSub, reduceMul, reduceLeDiff, reduceLT, Nat.reduceBEq, reduceIte, sealL_cons, sealL_nil]) (by simp only [go_sem, reduceEqDiff, reduceAdd, reduceSub, reduceMul, reduceLeDiff, reduceLT, Nat.reduceBEq, reduceIte, sealH_cons, sealH_nil]; exact ⟨⟨.same _, .nil, trivial⟩, trivial⟩) (by simp only [go_sem, reduceEqDiff, reduceAdd, reduceSub, reduceMul, reduceLeDiff, reduceLT, Nat.reduceBEq, reduceIte])
  rintro ⟨v1_0, v1_1⟩ rfl
  have h := hJ2
  try dsimp only [Out.fin] at h
  refine nz ?_
  refine AW.one ?_
  refine AW.op mixed ?_
  refine AW.kp [0, 1, 2] [1, 2, 3, 4] ?_
  refine obindE h fun oJ33 h hJ33 => ?_
  refine AW.join (S := Api_NamesA) (fun e31_0 => [(2, .ptr 0 2 0 0), (3, .ptr 1 2 0 0)]) (fun e31_0 => [some ⟨2, [[.d (.val (.bool false)), .d (.val (.slice none 0 0))]]⟩, some ⟨2, [[.d (.val (.bool e31_0.all)), .d (slD strV e31_0.list)]]⟩]) (fun x => x = oJ33) ?_ ?_
  · refine AW.block ?_
    refine AW.iter (S := Int × Api_NamesA) (fun (i30_0, i30_1) => [(1, .ptr 0 6 0 0), (2, .ptr 1 2 0 0), (3, .ptr 2 2 0 0), (4, .d (.val (.int .i64 i30_0)))]) (fun (i30_0, i30_1) => [some ⟨6, [[.d (.val (.int .i64 p0.op)), .d (.val (.string p0.name)), .d (.val (.bool p0.num.neg)), .d (slD u32V p0.num.num), .d (slD u32V p0.num.den), .d (slD NodeA.enc p0.kids)]]⟩, some ⟨2, [[.d (.val (.bool false)), .d (.val (.slice none 0 0))]]⟩, some ⟨2, [[.d (.val (.bool i30_1.all)), .d (slD strV i30_1.list)]]⟩]) [0, 1, 2] h (by simp only [go_sem, reduceEqDiff, reduceAdd, reduceSub, reduceMul, reduceLeDiff, reduceLT, Nat.reduceBEq, reduceIte]) ?_
    rintro again ⟨i30_0, i30_1⟩ h
    try dsimp only at h
    refine AW.one ?_
    refine AW.op mixed ?_
    refine AW.kp [0, 1, 2] [1, 2, 3, 4, 40] ?_
    refine AW.ts (decide (i30_0 < (p0.kids.length : Int))) (fun hb34 => ?_) (fun hb34 => ?_)
    · have h := ifT hb34 h
      refine AW.sk ?_
      refine AW.kp [0, 1, 2] [1, 2, 3, 4] ?_
      refine AW.one ?_
      refine AW.block ?_
      refine AW.reg mixed (by kernel_rfl) ?_
      apply obindE h; intro x35 hx36 h
      try simp only [go_sem, reduceEqDiff, reduceAdd, reduceSub, reduceMul, reduceLeDiff, reduceLT, Nat.reduceBEq, reduceIte, (idx_some hx36).1, (idx_some hx36).2]
      apply obindE h; intro r37 hx38 h
      have hc := nx (hself88 _ _ hx38)
      refine pcallK_intro hc (by simp only [go_sem, reduceEqDiff, reduceAdd, reduceSub, reduceMul, reduceLeDiff, reduceLT, Nat.reduceBEq, reduceIte]) ?_
      try simp only [go_sem, reduceEqDiff, reduceAdd, reduceSub, reduceMul, reduceLeDiff, reduceLT, Nat.reduceBEq, reduceIte, (idx_some hx36).1, (idx_some hx36).2]
      apply obindE h; intro r39 hx40 h
      have hc := nx (r10_join_ok (h := hx40))
      refine pcallK_intro hc (by simp only [go_sem, reduceEqDiff, reduceAdd, reduceSub, reduceMul, reduceLeDiff, reduceLT, Nat.reduceBEq, reduceIte]) ?_
      try simp only [go_sem, reduceEqDiff, reduceAdd, reduceSub, reduceMul, reduceLeDiff, reduceLT, Nat.reduceBEq, reduceIte, (idx_some hx36).1, (idx_some hx36).2]
      refine AW.cut [0, 1, 2] [(1, .ptr 0 6 0 0), (2, .ptr 1 2 0 0), (3, .ptr 2 2 0 0), (4, .d (.val (.int .i64 i30_0)))] [some ⟨6, [[.d (.val (.int .i64 p0.op)), .d (.val (.string p0.name)), .d (.val (.bool p0.num.neg)), .d (slD u32V p0.num.num), .d (slD u32V p0.num.den), .d (slD NodeA.enc p0.kids)]]⟩, some ⟨2, [[.d (.val (.bool false)), .d (.val (.slice none 0 0))]]⟩, some ⟨2, [[.d (.val (.bool r39.all)), .d (slD strV r39.list)]]⟩] (by simp only [go_sem, reduceEqDiff, reduceAdd, reduceSub, reduceMul, reduceLeDiff, reduceLT, Nat.reduceBEq, reduceIte, (idx_some hx36).1, (idx_some hx36).2]) ?_
      refine AW.rg mixed ?_
      exact NextQ.ar (IntKind.wrap .i64 (i30_0 + (1 : Int)), r39) [0, 1, 2] h
    have h := ifF hb34 h
    refine AW.ex ?_
    exact JoinQ.ar i30_1 [1, 2] (Option.some.inj h)
  rintro e31_0 rfl
  have h := hJ33
  try dsimp only [Out.fin] at h
  refine nz ?_
  refine AW.kp [0, 1] [2, 3] ?_
  refine AW.op mixed ?_
  refine AW.ret ?_
  obtain rfl := Option.some.inj h
  refine nz ?_
  exact .same _
def r10_anywhere (K : Nat) (p0 : NodeA) : Option Api_NamesA := iter K (fun self q => r10_anywhere_body K self q) p0
theorem key_r10_anywhere {K : Nat} (k : Nat) : (∀ (q : NodeA) (r : Api_NamesA), iter k (fun self q => r10_anywhere_body K self q) q = some r → Cn Tryz.prog 88 [aggV q.enc] (aggV r.enc)) := by
  induction k with
  | zero => exact fun q r h => by cases h
  | succ k ih => exact fun q r h => r10_anywhere_step K _ ih q r h
theorem r10_anywhere_ok {K : Nat} {p0 : NodeA} {r : Api_NamesA} (h : r10_anywhere K p0 = some r) : Cn Tryz.prog 88 [aggV p0.enc] (aggV r.enc) := (key_r10_anywhere K) p0 r h
/-! ### isochrone/isochroneref10.bound -/
def r10_bound_body (K : Nat) (self46 : NodeA → Option Api_NamesA) (p0 : NodeA) : Option Api_NamesA := (r08_Sort K p0.op).bind fun r1 => 
  if (r1 == (2 : Int)) then
    (r10_anywhere K p0).bind fun r4 => 
    some r4
  else
    ((
      ((
        if (p0.op == (50 : Int)) then
          some (p0.op == (50 : Int))
        else
          some (p0.op == (52 : Int))) : Option Bool).bind (fun v8_0 => 
      if v8_0 then
        (r10_only K p0.name).bind fun r12 => 
        some (.go (r12.all, r12.list))
      else
        if (p0.op == (51 : Int)) then
          (catO p0.name (⟨#[39]⟩ : ByteArray)).bind fun s15 => 
          (r10_only K s15).bind fun r17 => 
          some (.go (r17.all, r17.list))
        else
          if (p0.op == (55 : Int)) then
            (r10_only K p0.name).bind fun r20 => 
            (catO p0.name (⟨#[39]⟩ : ByteArray)).bind fun s22 => 
            (r10_only K s22).bind fun r24 => 
            (r10_join K r20 r24).bind fun r26 => 
            outM (
              some r26)
          else
            ((
              if (p0.op == (56 : Int)) then
                some (p0.op == (56 : Int))
              else
                if (p0.op == (61 : Int)) then
                  some (p0.op == (61 : Int))
                else
                  some (p0.op == (62 : Int))) : Option Bool).bind (fun v28_0 => 
            if v28_0 then
              outM (
                some (Api_NamesA.mk true []))
            else
              if (p0.op == (53 : Int)) then
                outM (
                  some (Api_NamesA.mk false []))
              else
                if (p0.op == (54 : Int)) then
                  ((iter (S := Int × Api_NamesA) (R := Api_NamesA) K (fun again (i39_0, i39_1) => 
                    if (decide (i39_0 < (IntKind.wrap .i64 ((p0.kids.length : Int) - (1 : Int))))) then
                      (idx p0.kids i39_0).bind fun x44 => 
                      (self46 (x44)).bind fun r46 => 
                      (r10_join K i39_1 r46).bind fun r48 => 
                      again (IntKind.wrap .i64 (i39_0 + (1 : Int)), r48)
                    else
                      some i39_1) ((0 : Int), (Api_NamesA.mk false []))) : Option Api_NamesA).bind (fun e40_0 => 
                  outM (
                    some e40_0))
                else
                  some (.go (false, []))))) : Option (Out (Bool × (List ByteArray)) _)).bind (Out.fin fun (v6_0, v6_1) => 
    ((iter (S := Int × Api_NamesA) (R := Api_NamesA) K (fun again (i50_0, i50_1) => 
      if (decide (i50_0 < (p0.kids.length : Int))) then
        (idx p0.kids i50_0).bind fun x55 => 
        (self46 (x55)).bind fun r57 => 
        (r10_join K i50_1 r57).bind fun r59 => 
        again (IntKind.wrap .i64 (i50_0 + (1 : Int)), r59)
      else
        some i50_1) ((0 : Int), (Api_NamesA.mk v6_0 v6_1))) : Option Api_NamesA).bind (fun e51_0 => 
    some e51_0))
set_option maxHeartbeats 4000000 in
theorem r10_bound_step (K : Nat) (self46 : NodeA → Option Api_NamesA) (hself46 : ∀ (q : NodeA) (r : Api_NamesA), self46 q = some r → Cn Tryz.prog 46 [aggV q.enc] (aggV r.enc)) (p0 : NodeA) (r : Api_NamesA) (h : r10_bound_body K self46 p0 = some r) : Cn Tryz.prog 46 [aggV p0.enc] (aggV r.enc) := by
  refine Cn.ofA mixed Tryz.func46 rfl Tryz.call46 Tryz.ntmps46 Tryz.results46 (by simp) (by simp only [go_sem, reduceEqDiff, reduceAdd, reduceSub, reduceMul, reduceLeDiff, reduceLT, Nat.reduceBEq, reduceIte]) fun hfit => ?_
  unfold r10_bound_body at h
  refine AW.kp [] [0] ?_
  refine AW.op mixed ?_
  refine AW.kp [0, 1] [1, 2] ?_
  refine AW.op mixed ?_
  refine AW.kp [0, 1, 2] [1, 2, 3] ?_
  refine AW.one ?_
  refine AW.op mixed ?_
  apply obindE h; intro r1 hx2 h
  have hc := nx (r08_Sort_ok (h := hx2))
  refine callP hc ?_
  refine AW.kp [0, 1, 2] [1, 2, 3, 9] ?_
  refine AW.ts (r1 == (2 : Int)) (fun hb3 => ?_) (fun hb3 => ?_)
  · have h := ifT hb3 h
    refine AW.op mixed ?_
    apply obindE h; intro r4 hx5 h
    have hc := nx (r10_anywhere_ok (h := hx5))
    refine callP hc ?_
    refine AW.ret ?_
    obtain rfl := Option.some.inj h
    refine nz ?_
    exact .same _
  have h := ifF hb3 h
  refine AW.sk ?_
  refine AW.kp [0, 1, 2] [1, 2, 3] ?_
  refine AW.one ?_
  refine obindE h fun oJ7 h hJ7 => ?_
  refine AW.join (S := Bool × (List ByteArray)) (fun (v6_0, v6_1) => [(1, .ptr 0 6 0 0), (2, .ptr 1 2 0 0), (3, .ptr 2 2 0 0)]) (fun (v6_0, v6_1) => [some ⟨6, [[.d (.val (.int .i64 p0.op)), .d (.val (.string p0.name)), .d (.val (.bool p0.num.neg)), .d (slD u32V p0.num.num), .d (slD u32V p0.num.den), .d (slD NodeA.enc p0.kids)]]⟩, some ⟨2, [[.d (.val (.bool false)), .d (.val (.slice none 0 0))]]⟩, some ⟨2, [[.d (.val (.bool v6_0)), .d (slD strV v6_1)]]⟩]) (fun x => oJ7 = .go x) ?_ ?_
  · skip
    refine AW.op mixed ?_
    refine AW.kp [0, 1, 2] [1, 2, 3, 13] ?_
    refine AW.block ?_
    refine AW.one ?_
    refine obindE h fun oJ9 h hJ9 => ?_
    refine AW.join (S := Bool) (fun v8_0 => [(1, .ptr 0 6 0 0), (2, .ptr 1 2 0 0), (3, .ptr 2 2 0 0), (13, .d (.val (.int .i64 p0.op))), (14, .d (.val (.bool v8_0)))]) (fun v8_0 => [some ⟨6, [[.d (.val (.int .i64 p0.op)), .d (.val (.string p0.name)), .d (.val (.bool p0.num.neg)), .d (slD u32V p0.num.num), .d (slD u32V p0.num.den), .d (slD NodeA.enc p0.kids)]]⟩, some ⟨2, [[.d (.val (.bool false)), .d (.val (.slice none 0 0))]]⟩, some ⟨2, [[.d (.val (.bool false)), .d (.val (.slice none 0 0))]]⟩]) (fun x => x = oJ9) ?_ ?_
    · skip
      refine AW.op mixed ?_
      refine AW.kp [0, 1, 2] [1, 2, 3, 13, 14] ?_
      refine AW.ts (p0.op == (50 : Int)) (fun hb10 => ?_) (fun hb10 => ?_)
      · have h := ifT hb10 h
        refine AW.sk ?_
        exact JoinQ.ar (p0.op == (50 : Int)) [0, 1, 2] (Option.some.inj h)
      have h := ifF hb10 h
      refine AW.rg mixed ?_
      exact JoinQ.ar (p0.op == (52 : Int)) [0, 1, 2] (Option.some.inj h)
    rintro v8_0 rfl
    have h := hJ9
    try dsimp only [Out.fin] at h
    refine nz ?_
    refine AW.ts v8_0 (fun hb11 => ?_) (fun hb11 => ?_)
    · have h := ifT hb11 h
      refine AW.rg mixed ?_
      apply obindE h; intro r12 hx13 h
      have hc := nx (r10_only_ok (h := hx13))
      refine callP hc ?_
      exact JoinQ.ar (r12.all, r12.list) [0, 1, 2] (Option.some.inj h).symm
    have h := ifF hb11 h
    refine AW.op mixed ?_
    refine AW.kp [0, 1, 2] [1, 2, 3, 13, 20] ?_
    refine AW.ts (p0.op == (51 : Int)) (fun hb14 => ?_) (fun hb14 => ?_)
    · have h := ifT hb14 h
      refine AW.rg mixed ?_
      apply obindE h; intro s15 hx16 h
      try simp only [go_sem, reduceEqDiff, reduceAdd, reduceSub, reduceMul, reduceLeDiff, reduceLT, Nat.reduceBEq, reduceIte, bop_cat (P := Tryz.prog) hx16]
      apply obindE h; intro r17 hx18 h
      have hc := nx (r10_only_ok (h := hx18))
      refine callK_pure hc (by simp only [go_sem, reduceEqDiff, reduceAdd, reduceSub, reduceMul, reduceLeDiff, reduceLT, Nat.reduceBEq, reduceIte]) ?_
      try simp only [go_sem, reduceEqDiff, reduceAdd, reduceSub, reduceMul, reduceLeDiff, reduceLT, Nat.reduceBEq, reduceIte, bop_cat (P := Tryz.prog) hx16]
      refine JoinQ.mk (r17.all, r17.list) [0, 1, 2] (Option.some.inj h).symm (by simp only [go_sem, reduceEqDiff, reduceAdd, reduceSub, reduceMul, reduceLeDiff, reduceLT, Nat.reduceBEq, reduceIte, bop_cat (P := Tryz.prog) hx16])
    have h := ifF hb14 h
    refine AW.op mixed ?_
    refine AW.kp [0, 1, 2] [1, 2, 3, 13, 26] ?_
    refine AW.ts (p0.op == (55 : Int)) (fun hb19 => ?_) (fun hb19 => ?_)
    · have h := ifT hb19 h
      refine AW.op mixed ?_
      apply obindE h; intro r20 hx21 h
      have hc := nx (r10_only_ok (h := hx21))
      refine callD hc ?_
      apply obindE h; intro s22 hx23 h
      try simp only [go_sem, reduceEqDiff, reduceAdd, reduceSub, reduceMul, reduceLeDiff, reduceLT, Nat.reduceBEq, reduceIte, bop_cat (P := Tryz.prog) hx23]
      apply obindE h; intro r24 hx25 h
      have hc := nx (r10_only_ok (h := hx25))
      refine pcallK_intro hc (by simp only [go_sem, reduceEqDiff, reduceAdd, reduceSub, reduceMul, reduceLeDiff, reduceLT, Nat.reduceBEq, reduceIte]) ?_
      try simp only [go_sem, reduceEqDiff, reduceAdd, reduceSub, reduceMul, reduceLeDiff, reduceLT, Nat.reduceBEq, reduceIte, bop_cat (P := Tryz.prog) hx23]
      apply obindE h; intro r26 hx27 h
      have hc := nx (r10_join_ok (h := hx27))
      refine pcallK_intro hc (by simp only [go_sem, reduceEqDiff, reduceAdd, reduceSub, reduceMul, reduceLeDiff, reduceLT, Nat.reduceBEq, reduceIte]) ?_
      try simp only [go_sem, reduceEqDiff, reduceAdd, reduceSub, reduceMul, reduceLeDiff, reduceLT, Nat.reduceBEq, reduceIte, bop_cat (P := Tryz.prog) hx23]
      refine AW.ret ?_
      obtain ⟨_, h, ho⟩ := outM_some h
      rw [ho, Out.fin_out] at hJ7
      have h := h.trans hJ7
      obtain rfl := Option.some.inj h
      refine nz ?_
      exact .same _
    have h := ifF hb19 h
    refine AW.one ?_
    refine obindE h fun oJ29 h hJ29 => ?_
    refine AW.join (S := Bool) (fun v28_0 => [(1, .ptr 0 6 0 0), (2, .ptr 1 2 0 0), (3, .ptr 2 2 0 0), (13, .d (.val (.int .i64 p0.op))), (36, .d (.val (.bool v28_0)))]) (fun v28_0 => [some ⟨6, [[.d (.val (.int .i64 p0.op)), .d (.val (.string p0.name)), .d (.val (.bool p0.num.neg)), .d (slD u32V p0.num.num), .d (slD u32V p0.num.den), .d (slD NodeA.enc p0.kids)]]⟩, some ⟨2, [[.d (.val (.bool false)), .d (.val (.slice none 0 0))]]⟩, some ⟨2, [[.d (.val (.bool false)), .d (.val (.slice none 0 0))]]⟩]) (fun x => x = oJ29) ?_ ?_
    · skip
      refine AW.op mixed ?_
      refine AW.kp [0, 1, 2] [1, 2, 3, 13, 36] ?_
      refine AW.ts (p0.op == (56 : Int)) (fun hb30 => ?_) (fun hb30 => ?_)
      · have h := ifT hb30 h
        refine AW.sk ?_
        exact JoinQ.ar (p0.op == (56 : Int)) [0, 1, 2] (Option.some.inj h)
      have h := ifF hb30 h
      refine AW.op mixed ?_
      refine AW.kp [0, 1, 2] [1, 2, 3, 13, 36] ?_
      refine AW.ts (p0.op == (61 : Int)) (fun hb31 => ?_) (fun hb31 => ?_)
      · have h := ifT hb31 h
        refine AW.sk ?_
        exact JoinQ.ar (p0.op == (61 : Int)) [0, 1, 2] (Option.some.inj h)
      have h := ifF hb31 h
      refine AW.rg mixed ?_
      exact JoinQ.ar (p0.op == (62 : Int)) [0, 1, 2] (Option.some.inj h)
    rintro v28_0 rfl
    have h := hJ29
    try dsimp only [Out.fin] at h
    refine nz ?_
    refine AW.ts v28_0 (fun hb32 => ?_) (fun hb32 => ?_)
    · have h := ifT hb32 h
      refine AW.op mixed ?_
      refine AW.ret ?_
      obtain ⟨_, h, ho⟩ := outM_some h
      rw [ho, Out.fin_out] at hJ7
      have h := h.trans hJ7
      obtain rfl := Option.some.inj h
      refine nz ?_
      exact .aggL ⟨.same _, .nil, trivial⟩
    have h := ifF hb32 h
    refine AW.op mixed ?_
    refine AW.kp [0, 1, 2] [1, 2, 3, 13, 41] ?_
    refine AW.ts (p0.op == (53 : Int)) (fun hb33 => ?_) (fun hb33 => ?_)
    · have h := ifT hb33 h
      refine AW.op mixed ?_
      refine AW.ret ?_
      obtain ⟨_, h, ho⟩ := outM_some h
      rw [ho, Out.fin_out] at hJ7
      have h := h.trans hJ7
      obtain rfl := Option.some.inj h
      refine nz ?_
      exact .aggL ⟨.same _, .nil, trivial⟩
    have h := ifF hb33 h
    refine AW.op mixed ?_
    refine AW.kp [0, 1, 2] [1, 2, 3, 44] ?_
    refine AW.ts (p0.op == (54 : Int)) (fun hb34 => ?_) (fun hb34 => ?_)
    · have h := ifT hb34 h
      refine AW.one ?_
      refine AW.op mixed ?_
      refine AW.kp [0, 1, 2] [1, 2, 3, 4] ?_
      refine AW.cutS [0, 1, 2] [] [] [(2, ⟨2, [[.d (.val (.bool false)), .d (slD strV [])]]⟩)] [(1, .ptr 0 6 0 0), (2, .ptr 1 2 0 0), (3, .ptr 2 2 0 0), (4, .d (.val (.int .i64 (0 : Int))))] [some ⟨6, [[.d (.val (.int .i64 p0.op)), .d (.val (.string p0.name)), .d (.val (.bool p0.num.neg)), .d (slD u32V p0.num.num), .d (slD u32V p0.num.den), .d (slD NodeA.enc p0.kids)]]⟩, some ⟨2, [[.d (.val (.bool false)), .d (.val (.slice none 0 0))]]⟩, some ⟨2, [[.d (.val (.bool false)), .d (slD strV [])]]⟩] (by simp only [go_sem, reduceEqDiff, reduceAdd, reduceSub, reduceMul, reduceLeDiff, reduceLT, Nat.reduceBEq, reduceIte, sealL_cons, sealL_nil]) (by simp only [go_sem, reduceEqDiff, reduceAdd, reduceSub, reduceMul, reduceLeDiff, reduceLT, Nat.reduceBEq, reduceIte, sealH_cons, sealH_nil]; exact ⟨⟨.same _, .nil, trivial⟩, trivial⟩) (by simp only [go_sem, reduceEqDiff, reduceAdd, reduceSub, reduceMul, reduceLeDiff, reduceLT, Nat.reduceBEq, reduceIte]) ?_
      refine obindE h fun oJ42 h hJ42 => ?_
      refine AW.join (S := Api_NamesA) (fun e40_0 => [(2, .ptr 0 2 0 0), (3, .ptr 1 2 0 0)]) (fun e40_0 => [some ⟨2, [[.d (.val (.bool false)), .d (.val (.slice none 0 0))]]⟩, some ⟨2, [[.d (.val (.bool e40_0.all)), .d (slD strV e40_0.list)]]⟩]) (fun x => x = oJ42) ?_ ?_
      · refine AW.block ?_
        refine AW.iter (S := Int × Api_NamesA) (fun (i39_0, i39_1) => [(1, .ptr 0 6 0 0), (2, .ptr 1 2 0 0), (3, .ptr 2 2 0 0), (4, .d (.val (.int .i64 i39_0)))]) (fun (i39_0, i39_1) => [some ⟨6, [[.d (.val (.int .i64 p0.op)), .d (.val (.string p0.name)), .d (.val (.bool p0.num.neg)), .d (slD u32V p0.num.num), .d (slD u32V p0.num.den), .d (slD NodeA.enc p0.kids)]]⟩, some ⟨2, [[.d (.val (.bool false)), .d (.val (.slice none 0 0))]]⟩, some ⟨2, [[.d (.val (.bool i39_1.all)), .d (slD strV i39_1.list)]]⟩]) [0, 1, 2] h (by simp only [go_sem, reduceEqDiff, reduceAdd, reduceSub, reduceMul, reduceLeDiff, reduceLT, Nat.reduceBEq, reduceIte]) ?_
        rintro again ⟨i39_0, i39_1⟩ h
        try dsimp only at h
        refine AW.one ?_
        refine AW.op mixed ?_
        refine AW.kp [0, 1, 2] [1, 2, 3, 4, 51] ?_
        refine AW.ts (decide (i39_0 < (IntKind.wrap .i64 ((p0.kids.length : Int) - (1 : Int))))) (fun hb43 => ?_) (fun hb43 => ?_)
        · have h := ifT hb43 h
          refine AW.sk ?_
          refine AW.kp [0, 1, 2] [1, 2, 3, 4] ?_
          refine AW.one ?_
          refine AW.block ?_
          refine AW.reg mixed (by kernel_rfl) ?_
          apply obindE h; intro x44 hx45 h
          try simp only [go_sem, reduceEqDiff, reduceAdd, reduceSub, reduceMul, reduceLeDiff, reduceLT, Nat.reduceBEq, reduceIte, (idx_some hx45).1, (idx_some hx45).2]
          apply obindE h; intro r46 hx47 h
          have hc := nx (hself46 _ _ hx47)
          refine pcallK_intro hc (by simp only [go_sem, reduceEqDiff, reduceAdd, reduceSub, reduceMul, reduceLeDiff, reduceLT, Nat.reduceBEq, reduceIte]) ?_
          try simp only [go_sem, reduceEqDiff, reduceAdd, reduceSub, reduceMul, reduceLeDiff, reduceLT, Nat.reduceBEq, reduceIte, (idx_some hx45).1, (idx_some hx45).2]
          apply obindE h; intro r48 hx49 h
          have hc := nx (r10_join_ok (h := hx49))
          refine pcallK_intro hc (by simp only [go_sem, reduceEqDiff, reduceAdd, reduceSub, reduceMul, reduceLeDiff, reduceLT, Nat.reduceBEq, reduceIte]) ?_
          try simp only [go_sem, reduceEqDiff, reduceAdd, reduceSub, reduceMul, reduceLeDiff, reduceLT, Nat.reduceBEq, reduceIte, (idx_some hx45).1, (idx_some hx45).2]
          refine AW.cut [0, 1, 2] [(1, .ptr 0 6 0 0), (2, .ptr 1 2 0 0), (3, .ptr 2 2 0 0), (4, .d (.val (.int .i64 i39_0)))] [some ⟨6, [[.d (.val (.int .i64 p0.op)), .d (.val (.string p0.name)), .d (.val (.bool p0.num.neg)), .d (slD u32V p0.num.num), .d (slD u32V p0.num.den), .d (slD NodeA.enc p0.kids)]]⟩, some ⟨2, [[.d (.val (.bool false)), .d (.val (.slice none 0 0))]]⟩, some ⟨2, [[.d (.val (.bool r48.all)), .d (slD strV r48.list)]]⟩] (by simp only [go_sem, reduceEqDiff, reduceAdd, reduceSub, reduceMul, reduceLeDiff, reduceLT, Nat.reduceBEq, reduceIte, (idx_some hx45).1, (idx_some hx45).2]) ?_
          refine AW.rg mixed ?_
          exact NextQ.ar (IntKind.wrap .i64 (i39_0 + (1 : Int)), r48) [0, 1, 2] h
        have h := ifF hb43 h
        refine AW.ex ?_
        exact JoinQ.ar i39_1 [1, 2] (Option.some.inj h)
      rintro e40_0 rfl
      have h := hJ42
      try dsimp only [Out.fin] at h
      refine nz ?_
      refine AW.kp [0, 1] [2, 3] ?_
      refine AW.op mixed ?_
      refine AW.ret ?_
      obtain ⟨_, h, ho⟩ := outM_some h
      rw [ho, Out.fin_out] at hJ7
      have h := h.trans hJ7
      obtain rfl := Option.some.inj h
      refine nz ?_
      exact .same _
    have h := ifF hb34 h
    refine AW.sk ?_
    refine JoinQ.mkS (false, []) [0, 1, 2] [] [] [(2, ⟨2, [[.d (.val (.bool false)), .d (slD strV [])]]⟩)] (Option.some.inj h).symm (by simp only [go_sem, reduceEqDiff, reduceAdd, reduceSub, reduceMul, reduceLeDiff, reduceLT, Nat.reduceBEq, reduceIte, sealL_cons, sealL_nil]) (by simp only [go_sem, reduceEqDiff, reduceAdd, reduceSub, reduceMul, reduceLeDiff, reduceLT, Nat.reduceBEq, reduceIte, sealH_cons, sealH_nil]; exact ⟨⟨.same _, .nil, trivial⟩, trivial⟩) (by simp only [go_sem, reduceEqDiff, reduceAdd, reduceSub, reduceMul, reduceLeDiff, reduceLT, Nat.reduceBEq, reduceIte])
  rintro ⟨v6_0, v6_1⟩ rfl
  have h := hJ7
  try dsimp only [Out.fin] at h
  refine nz ?_
  refine AW.one ?_
  refine AW.op mixed ?_
  refine AW.kp [0, 1, 2] [1, 2, 3, 5] ?_
  refine obindE h fun oJ53 h hJ53 => ?_
  refine AW.join (S := Api_NamesA) (fun e51_0 => [(2, .ptr 0 2 0 0), (3, .ptr 1 2 0 0)]) (fun e51_0 => [some ⟨2, [[.d (.val (.bool false)), .d (.val (.slice none 0 0))]]⟩, some ⟨2, [[.d (.val (.bool e51_0.all)), .d (slD strV e51_0.list)]]⟩]) (fun x => x = oJ53) ?_ ?_
  · refine AW.block ?_
    refine AW.iter (S := Int × Api_NamesA) (fun (i50_0, i50_1) => [(1, .ptr 0 6 0 0), (2, .ptr 1 2 0 0), (3, .ptr 2 2 0 0), (5, .d (.val (.int .i64 i50_0)))]) (fun (i50_0, i50_1) => [some ⟨6, [[.d (.val (.int .i64 p0.op)), .d (.val (.string p0.name)), .d (.val (.bool p0.num.neg)), .d (slD u32V p0.num.num), .d (slD u32V p0.num.den), .d (slD NodeA.enc p0.kids)]]⟩, some ⟨2, [[.d (.val (.bool false)), .d (.val (.slice none 0 0))]]⟩, some ⟨2, [[.d (.val (.bool i50_1.all)), .d (slD strV i50_1.list)]]⟩]) [0, 1, 2] h (by simp only [go_sem, reduceEqDiff, reduceAdd, reduceSub, reduceMul, reduceLeDiff, reduceLT, Nat.reduceBEq, reduceIte]) ?_
    rintro again ⟨i50_0, i50_1⟩ h
    try dsimp only at h
    refine AW.one ?_
    refine AW.op mixed ?_
    refine AW.kp [0, 1, 2] [1, 2, 3, 5, 67] ?_
    refine AW.ts (decide (i50_0 < (p0.kids.length : Int))) (fun hb54 => ?_) (fun hb54 => ?_)
    · have h := ifT hb54 h
      refine AW.sk ?_
      refine AW.kp [0, 1, 2] [1, 2, 3, 5] ?_
      refine AW.one ?_
      refine AW.block ?_
      refine AW.reg mixed (by kernel_rfl) ?_
      apply obindE h; intro x55 hx56 h
      try simp only [go_sem, reduceEqDiff, reduceAdd, reduceSub, reduceMul, reduceLeDiff, reduceLT, Nat.reduceBEq, reduceIte, (idx_some hx56).1, (idx_some hx56).2]
      apply obindE h; intro r57 hx58 h
      have hc := nx (hself46 _ _ hx58)
      refine pcallK_intro hc (by simp only [go_sem, reduceEqDiff, reduceAdd, reduceSub, reduceMul, reduceLeDiff, reduceLT, Nat.reduceBEq, reduceIte]) ?_
      try simp only [go_sem, reduceEqDiff, reduceAdd, reduceSub, reduceMul, reduceLeDiff, reduceLT, Nat.reduceBEq, reduceIte, (idx_some hx56).1, (idx_some hx56).2]
      apply obindE h; intro r59 hx60 h
      have hc := nx (r10_join_ok (h := hx60))
      refine pcallK_intro hc (by simp only [go_sem, reduceEqDiff, reduceAdd, reduceSub, reduceMul, reduceLeDiff, reduceLT, Nat.reduceBEq, reduceIte]) ?_
      try simp only [go_sem, reduceEqDiff, reduceAdd, reduceSub, reduceMul, reduceLeDiff, reduceLT, Nat.reduceBEq, reduceIte, (idx_some hx56).1, (idx_some hx56).2]
      refine AW.cut [0, 1, 2] [(1, .ptr 0 6 0 0), (2, .ptr 1 2 0 0), (3, .ptr 2 2 0 0), (5, .d (.val (.int .i64 i50_0)))] [some ⟨6, [[.d (.val (.int .i64 p0.op)), .d (.val (.string p0.name)), .d (.val (.bool p0.num.neg)), .d (slD u32V p0.num.num), .d (slD u32V p0.num.den), .d (slD NodeA.enc p0.kids)]]⟩, some ⟨2, [[.d (.val (.bool false)), .d (.val (.slice none 0 0))]]⟩, some ⟨2, [[.d (.val (.bool r59.all)), .d (slD strV r59.list)]]⟩] (by simp only [go_sem, reduceEqDiff, reduceAdd, reduceSub, reduceMul, reduceLeDiff, reduceLT, Nat.reduceBEq, reduceIte, (idx_some hx56).1, (idx_some hx56).2]) ?_
      refine AW.rg mixed ?_
      exact NextQ.ar (IntKind.wrap .i64 (i50_0 + (1 : Int)), r59) [0, 1, 2] h
    have h := ifF hb54 h
    refine AW.ex ?_
    exact JoinQ.ar i50_1 [1, 2] (Option.some.inj h)
  rintro e51_0 rfl
  have h := hJ53
  try dsimp only [Out.fin] at h
  refine nz ?_
  refine AW.kp [0, 1] [2, 3] ?_
  refine AW.op mixed ?_
  refine AW.ret ?_
  obtain rfl := Option.some.inj h
  refine nz ?_
  exact .same _
def r10_bound (K : Nat) (p0 : NodeA) : Option Api_NamesA := iter K (fun self q => r10_bound_body K self q) p0
theorem key_r10_bound {K : Nat} (k : Nat) : (∀ (q : NodeA) (r : Api_NamesA), iter k (fun self q => r10_bound_body K self q) q = some r → Cn Tryz.prog 46 [aggV q.enc] (aggV r.enc)) := by
  induction k with
  | zero => exact fun q r h => by cases h
  | succ k ih => exact fun q r h => r10_bound_step K _ ih q r h
theorem r10_bound_ok {K : Nat} {p0 : NodeA} {r : Api_NamesA} (h : r10_bound K p0 = some r) : Cn Tryz.prog 46 [aggV p0.enc] (aggV r.enc) := (key_r10_bound K) p0 r h
/-! ### isochrone/isochroneref10.BoundOf -/
def r10_BoundOf (K : Nat) (p0 : NodeA) : Option Api_NamesA := (r10_bound K p0).bind fun r1 => 
  some r1
set_option maxHeartbeats 4000000 in
theorem r10_BoundOf_ok {K : Nat} {p0 : NodeA} {r : Api_NamesA} (h : r10_BoundOf K p0 = some r) : Cn Tryz.prog 17 [aggV p0.enc] (aggV r.enc) := by
  refine Cn.ofA mixed Tryz.func17 rfl Tryz.call17 Tryz.ntmps17 Tryz.results17 (by simp) (by simp only [go_sem, reduceEqDiff, reduceAdd, reduceSub, reduceMul, reduceLeDiff, reduceLT, Nat.reduceBEq, reduceIte]) fun hfit => ?_
  unfold r10_BoundOf at h
  refine AW.kp [] [0] ?_
  refine AW.op mixed ?_
  refine AW.kp [0, 1] [1, 2] ?_
  refine AW.op mixed ?_
  apply obindE h; intro r1 hx2 h
  have hc := nx (r10_bound_ok (h := hx2))
  refine callP hc ?_
  refine AW.ret ?_
  obtain rfl := Option.some.inj h
  refine nz ?_
  exact .same _
/-! ### isochrone/isochroneref10.other -/
def r10_other (K : Nat) (p0 : Api_NamesA) : Option Api_NamesA := some (Api_NamesA.mk (!p0.all) p0.list)
set_option maxHeartbeats 4000000 in
theorem r10_other_ok {K : Nat} {p0 : Api_NamesA} {r : Api_NamesA} (h : r10_other K p0 = some r) : Cn Tryz.prog 104 [aggV p0.enc] (aggV r.enc) := by
  refine Cn.ofA mixed Tryz.func104 rfl Tryz.call104 Tryz.ntmps104 Tryz.results104 (by simp) (by simp only [go_sem, reduceEqDiff, reduceAdd, reduceSub, reduceMul, reduceLeDiff, reduceLT, Nat.reduceBEq, reduceIte]) fun hfit => ?_
  unfold r10_other at h
  refine AW.kp [] [0] ?_
  refine AW.op mixed ?_
  refine AW.kp [0, 1] [1, 2] ?_
  refine AW.op mixed ?_
  refine AW.ret ?_
  obtain rfl := Option.some.inj h
  refine nz ?_
  exact .same _
/-! ### isochrone/isochroneref10.meet -/
def r10_meet (K : Nat) (p0 : Api_NamesA) (p1 : Api_NamesA) : Option Api_NamesA := (r10_other K p0).bind fun r1 => 
  (r10_other K p1).bind fun r3 => 
  (r10_join K r1 r3).bind fun r5 => 
  (r10_other K r5).bind fun r7 => 
  some r7
set_option maxHeartbeats 4000000 in
theorem r10_meet_ok {K : Nat} {p0 : Api_NamesA} {p1 : Api_NamesA} {r : Api_NamesA} (h : r10_meet K p0 p1 = some r) : Cn Tryz.prog 89 [aggV p0.enc, aggV p1.enc] (aggV r.enc) := by
  refine Cn.ofA mixed Tryz.func89 rfl Tryz.call89 Tryz.ntmps89 Tryz.results89 (by simp) (by simp only [go_sem, reduceEqDiff, reduceAdd, reduceSub, reduceMul, reduceLeDiff, reduceLT, Nat.reduceBEq, reduceIte]) fun hfit => ?_
  unfold r10_meet at h
  refine AW.kp [] [0, 1] ?_
  refine AW.op mixed ?_
  refine AW.kp [0, 1, 2] [2, 3, 4] ?_
  refine AW.op mixed ?_
  apply obindE h; intro r1 hx2 h
  have hc := nx (r10_other_ok (h := hx2))
  refine callD hc ?_
  apply obindE h; intro r3 hx4 h
  have hc := nx (r10_other_ok (h := hx4))
  refine callD hc ?_
  apply obindE h; intro r5 hx6 h
  have hc := nx (r10_join_ok (h := hx6))
  refine callD hc ?_
  apply obindE h; intro r7 hx8 h
  have hc := nx (r10_other_ok (h := hx8))
  refine callD hc ?_
  refine AW.ret ?_
  obtain rfl := Option.some.inj h
  refine nz ?_
  exact .same _
/-! ### isochrone/isochroneref10.minus -/
def r10_minus (K : Nat) (p0 : Api_NamesA) (p1 : Api_NamesA) : Option Api_NamesA := (r10_other K p1).bind fun r1 => 
  (r10_meet K p0 r1).bind fun r3 => 
  some r3
set_option maxHeartbeats 4000000 in
theorem r10_minus_ok {K : Nat} {p0 : Api_NamesA} {p1 : Api_NamesA} {r : Api_NamesA} (h : r10_minus K p0 p1 = some r) : Cn Tryz.prog 85 [aggV p0.enc, aggV p1.enc] (aggV r.enc) := by
  refine Cn.ofA mixed Tryz.func85 rfl Tryz.call85 Tryz.ntmps85 Tryz.results85 (by simp) (by simp only [go_sem, reduceEqDiff, reduceAdd, reduceSub, reduceMul, reduceLeDiff, reduceLT, Nat.reduceBEq, reduceIte]) fun hfit => ?_
  unfold r10_minus at h
  refine AW.kp [] [0, 1] ?_
  refine AW.op mixed ?_
  refine AW.kp [0, 1, 2] [2, 3, 4] ?_
  refine AW.op mixed ?_
  apply obindE h; intro r1 hx2 h
  have hc := nx (r10_other_ok (h := hx2))
  refine callD hc ?_
  apply obindE h; intro r3 hx4 h
  have hc := nx (r10_meet_ok (h := hx4))
  refine callD hc ?_
  refine AW.ret ?_
  obtain rfl := Option.some.inj h
  refine nz ?_
  exact .same _
/-! ### isochrone/isochroneref10.must -/
def r10_must_body (K : Nat) (self47 : NodeA → Option Api_NamesA) (p0 : NodeA) : Option Api_NamesA := ((
    ((
      if (p0.op == (50 : Int)) then
        some (p0.op == (50 : Int))
      else
        some (p0.op == (52 : Int))) : Option Bool).bind (fun v3_0 => 
    if v3_0 then
      (r10_only K p0.name).bind fun r7 => 
      outM (
        some r7)
    else
      if (p0.op == (51 : Int)) then
        (catO p0.name (⟨#[39]⟩ : ByteArray)).bind fun s10 => 
        (r10_only K s10).bind fun r12 => 
        outM (
          some r12)
      else
        if (p0.op == (54 : Int)) then
          ((iter (S := Int × Api_NamesA) (R := Api_NamesA) K (fun again (i19_0, i19_1) => 
            if (decide (i19_0 < (p0.kids.length : Int))) then
              ((
                (idx p0.kids i19_0).bind fun x26 => 
                if (x26.op == (55 : Int)) then
                  (r10_only K x26.name).bind fun r29 => 
                  (catO x26.name (⟨#[39]⟩ : ByteArray)).bind fun s31 => 
                  (r10_only K s31).bind fun r33 => 
                  (r10_join K r29 r33).bind fun r35 => 
                  (r10_join K i19_1 r35).bind fun r37 => 
                  some r37
                else
                  some i19_1) : Option Api_NamesA).bind (fun v24_0 => 
              again (IntKind.wrap .i64 (i19_0 + (1 : Int)), v24_0))
            else
              some i19_1) ((0 : Int), (Api_NamesA.mk false []))) : Option Api_NamesA).bind (fun e20_0 => 
          outM (
            some e20_0))
        else
          if (p0.op == (57 : Int)) then
            (idx p0.kids (0 : Int)).bind fun x40 => 
            (self47 (x40)).bind fun r42 => 
            (idx p0.kids (1 : Int)).bind fun x44 => 
            (self47 (x44)).bind fun r46 => 
            (r10_join K r42 r46).bind fun r48 => 
            outM (
              some r48)
          else
            if (p0.op == (58 : Int)) then
              (idx p0.kids (0 : Int)).bind fun x51 => 
              (self47 (x51)).bind fun r53 => 
              (idx p0.kids (1 : Int)).bind fun x55 => 
              (self47 (x55)).bind fun r57 => 
              (r10_meet K r53 r57).bind fun r59 => 
              outM (
                some r59)
            else
              if (p0.op == (60 : Int)) then
                (idx p0.kids (0 : Int)).bind fun x62 => 
                (self47 (x62)).bind fun r64 => 
                outM (
                  some r64)
              else
                some (.go ()))) : Option (Out Unit _)).bind (Out.fin fun _ => 
  some (Api_NamesA.mk false []))
set_option maxHeartbeats 4000000 in
theorem r10_must_step (K : Nat) (self47 : NodeA → Option Api_NamesA) (hself47 : ∀ (q : NodeA) (r : Api_NamesA), self47 q = some r → Cn Tryz.prog 47 [aggV q.enc] (aggV r.enc)) (p0 : NodeA) (r : Api_NamesA) (h : r10_must_body K self47 p0 = some r) : Cn Tryz.prog 47 [aggV p0.enc] (aggV r.enc) := by
  refine Cn.ofA mixed Tryz.func47 rfl Tryz.call47 Tryz.ntmps47 Tryz.results47 (by simp) (by simp only [go_sem, reduceEqDiff, reduceAdd, reduceSub, reduceMul, reduceLeDiff, reduceLT, Nat.reduceBEq, reduceIte]) fun hfit => ?_
  unfold r10_must_body at h
  refine AW.kp [] [0] ?_
  refine AW.op mixed ?_
  refine AW.kp [0, 1] [1, 2] ?_
  refine AW.one ?_
  refine obindE h fun oJ2 h hJ2 => ?_
  refine AW.join (S := Unit) (fun _ => [(2, .ptr 0 2 0 0)]) (fun _ => [some ⟨2, [[.d (.val (.bool false)), .d (.val (.slice none 0 0))]]⟩]) (fun x => oJ2 = .go x) ?_ ?_
  · skip
    refine AW.op mixed ?_
    refine AW.kp [0, 1] [1, 2, 6] ?_
    refine AW.block ?_
    refine AW.one ?_
    refine obindE h fun oJ4 h hJ4 => ?_
    refine AW.join (S := Bool) (fun v3_0 => [(1, .ptr 0 6 0 0), (2, .ptr 1 2 0 0), (6, .d (.val (.int .i64 p0.op))), (7, .d (.val (.bool v3_0)))]) (fun v3_0 => [some ⟨6, [[.d (.val (.int .i64 p0.op)), .d (.val (.string p0.name)), .d (.val (.bool p0.num.neg)), .d (slD u32V p0.num.num), .d (slD u32V p0.num.den), .d (slD NodeA.enc p0.kids)]]⟩, some ⟨2, [[.d (.val (.bool false)), .d (.val (.slice none 0 0))]]⟩]) (fun x => x = oJ4) ?_ ?_
    · skip
      refine AW.op mixed ?_
      refine AW.kp [0, 1] [1, 2, 6, 7] ?_
      refine AW.ts (p0.op == (50 : Int)) (fun hb5 => ?_) (fun hb5 => ?_)
      · have h := ifT hb5 h
        refine AW.sk ?_
        exact JoinQ.ar (p0.op == (50 : Int)) [0, 1] (Option.some.inj h)
      have h := ifF hb5 h
      refine AW.rg mixed ?_
      exact JoinQ.ar (p0.op == (52 : Int)) [0, 1] (Option.some.inj h)
    rintro v3_0 rfl
    have h := hJ4
    try dsimp only [Out.fin] at h
    refine nz ?_
    refine AW.ts v3_0 (fun hb6 => ?_) (fun hb6 => ?_)
    · have h := ifT hb6 h
      refine AW.op mixed ?_
      apply obindE h; intro r7 hx8 h
      have hc := nx (r10_only_ok (h := hx8))
      refine callP hc ?_
      refine AW.ret ?_
      obtain ⟨_, h, ho⟩ := outM_some h
      rw [ho, Out.fin_out] at hJ2
      have h := h.trans hJ2
      obtain rfl := Option.some.inj h
      refine nz ?_
      exact .same _
    have h := ifF hb6 h
    refine AW.op mixed ?_
    refine AW.kp [0, 1] [1, 2, 6, 13] ?_
    refine AW.ts (p0.op == (51 : Int)) (fun hb9 => ?_) (fun hb9 => ?_)
    · have h := ifT hb9 h
      refine AW.op mixed ?_
      apply obindE h; intro s10 hx11 h
      try simp only [go_sem, reduceEqDiff, reduceAdd, reduceSub, reduceMul, reduceLeDiff, reduceLT, Nat.reduceBEq, reduceIte, bop_cat (P := Tryz.prog) hx11]
      apply obindE h; intro r12 hx13 h
      have hc := nx (r10_only_ok (h := hx13))
      refine callK_pure hc (by simp only [go_sem, reduceEqDiff, reduceAdd, reduceSub, reduceMul, reduceLeDiff, reduceLT, Nat.reduceBEq, reduceIte]) ?_
      try simp only [go_sem, reduceEqDiff, reduceAdd, reduceSub, reduceMul, reduceLeDiff, reduceLT, Nat.reduceBEq, reduceIte, bop_cat (P := Tryz.prog) hx11]
      refine AW.ret ?_
      obtain ⟨_, h, ho⟩ := outM_some h
      rw [ho, Out.fin_out] at hJ2
      have h := h.trans hJ2
      obtain rfl := Option.some.inj h
      refine nz ?_
      exact .same _
    have h := ifF hb9 h
    refine AW.op mixed ?_
    refine AW.kp [0, 1] [1, 2, 6, 19] ?_
    refine AW.ts (p0.op == (54 : Int)) (fun hb14 => ?_) (fun hb14 => ?_)
    · have h := ifT hb14 h
      refine AW.op mixed ?_
      refine AW.kp [0, 1, 2] [1, 2, 3] ?_
      refine AW.one ?_
      refine AW.op mixed ?_
      refine AW.kp [0, 1, 2] [1, 2, 3, 4] ?_
      refine AW.cutS [0, 1, 2] [] [] [(2, ⟨2, [[.d (.val (.bool false)), .d (slD strV [])]]⟩)] [(1, .ptr 0 6 0 0), (2, .ptr 1 2 0 0), (3, .ptr 2 2 0 0), (4, .d (.val (.int .i64 (0 : Int))))] [some ⟨6, [[.d (.val (.int .i64 p0.op)), .d (.val (.string p0.name)), .d (.val (.bool p0.num.neg)), .d (slD u32V p0.num.num), .d (slD u32V p0.num.den), .d (slD NodeA.enc p0.kids)]]⟩, some ⟨2, [[.d (.val (.bool false)), .d (.val (.slice none 0 0))]]⟩, some ⟨2, [[.d (.val (.bool false)), .d (slD strV [])]]⟩] (by simp only [go_sem, reduceEqDiff, reduceAdd, reduceSub, reduceMul, reduceLeDiff, reduceLT, Nat.reduceBEq, reduceIte, sealL_cons, sealL_nil]) (by simp only [go_sem, reduceEqDiff, reduceAdd, reduceSub, reduceMul, reduceLeDiff, reduceLT, Nat.reduceBEq, reduceIte, sealH_cons, sealH_nil]; exact ⟨⟨.same _, .nil, trivial⟩, trivial⟩) (by simp only [go_sem, reduceEqDiff, reduceAdd, reduceSub, reduceMul, reduceLeDiff, reduceLT, Nat.reduceBEq, reduceIte]) ?_
      refine obindE h fun oJ22 h hJ22 => ?_
      refine AW.join (S := Api_NamesA) (fun e20_0 => [(2, .ptr 0 2 0 0), (3, .ptr 1 2 0 0)]) (fun e20_0 => [some ⟨2, [[.d (.val (.bool false)), .d (.val (.slice none 0 0))]]⟩, some ⟨2, [[.d (.val (.bool e20_0.all)), .d (slD strV e20_0.list)]]⟩]) (fun x => x = oJ22) ?_ ?_
      · refine AW.block ?_
        refine AW.iter (S := Int × Api_NamesA) (fun (i19_0, i19_1) => [(1, .ptr 0 6 0 0), (2, .ptr 1 2 0 0), (3, .ptr 2 2 0 0), (4, .d (.val (.int .i64 i19_0)))]) (fun (i19_0, i19_1) => [some ⟨6, [[.d (.val (.int .i64 p0.op)), .d (.val (.string p0.name)), .d (.val (.bool p0.num.neg)), .d (slD u32V p0.num.num), .d (slD u32V p0.num.den), .d (slD NodeA.enc p0.kids)]]⟩, some ⟨2, [[.d (.val (.bool false)), .d (.val (.slice none 0 0))]]⟩, some ⟨2, [[.d (.val (.bool i19_1.all)), .d (slD strV i19_1.list)]]⟩]) [0, 1, 2] h (by simp only [go_sem, reduceEqDiff, reduceAdd, reduceSub, reduceMul, reduceLeDiff, reduceLT, Nat.reduceBEq, reduceIte]) ?_
        rintro again ⟨i19_0, i19_1⟩ h
        try dsimp only at h
        refine AW.one ?_
        refine AW.op mixed ?_
        refine AW.kp [0, 1, 2] [1, 2, 3, 4, 25] ?_
        refine AW.ts (decide (i19_0 < (p0.kids.length : Int))) (fun hb23 => ?_) (fun hb23 => ?_)
        · have h := ifT hb23 h
          refine AW.sk ?_
          refine AW.kp [0, 1, 2] [1, 2, 3, 4] ?_
          refine AW.one ?_
          refine obindE h fun oJ25 h hJ25 => ?_
          refine AW.join (S := Api_NamesA) (fun v24_0 => [(1, .ptr 0 6 0 0), (2, .ptr 1 2 0 0), (3, .ptr 2 2 0 0), (4, .d (.val (.int .i64 i19_0)))]) (fun v24_0 => [some ⟨6, [[.d (.val (.int .i64 p0.op)), .d (.val (.string p0.name)), .d (.val (.bool p0.num.neg)), .d (slD u32V p0.num.num), .d (slD u32V p0.num.den), .d (slD NodeA.enc p0.kids)]]⟩, some ⟨2, [[.d (.val (.bool false)), .d (.val (.slice none 0 0))]]⟩, some ⟨2, [[.d (.val (.bool v24_0.all)), .d (slD strV v24_0.list)]]⟩]) (fun x => x = oJ25) ?_ ?_
          · skip
            refine AW.block ?_
            refine AW.one ?_
            refine AW.reg mixed (by kernel_rfl) ?_
            apply obindE h; intro x26 hx27 h
            try simp only [go_sem, reduceEqDiff, reduceAdd, reduceSub, reduceMul, reduceLeDiff, reduceLT, Nat.reduceBEq, reduceIte, (idx_some hx27).1, (idx_some hx27).2]
            refine AW.cut [0, 1, 2] [(1, .ptr 0 6 0 0), (2, .ptr 1 2 0 0), (3, .ptr 2 2 0 0), (4, .d (.val (.int .i64 i19_0))), (34, .d (.val (.bool (x26.op == (55 : Int)))))] [some ⟨6, [[.d (.val (.int .i64 p0.op)), .d (.val (.string p0.name)), .d (.val (.bool p0.num.neg)), .d (slD u32V p0.num.num), .d (slD u32V p0.num.den), .d (slD NodeA.enc p0.kids)]]⟩, some ⟨2, [[.d (.val (.bool false)), .d (.val (.slice none 0 0))]]⟩, some ⟨2, [[.d (.val (.bool i19_1.all)), .d (slD strV i19_1.list)]]⟩] (by simp only [go_sem, reduceEqDiff, reduceAdd, reduceSub, reduceMul, reduceLeDiff, reduceLT, Nat.reduceBEq, reduceIte, (idx_some hx27).1, (idx_some hx27).2]) ?_
            refine AW.ts (x26.op == (55 : Int)) (fun hb28 => ?_) (fun hb28 => ?_)
            · have h := ifT hb28 h
              refine AW.reg mixed (by kernel_rfl) ?_
              try simp only [go_sem, reduceEqDiff, reduceAdd, reduceSub, reduceMul, reduceLeDiff, reduceLT, Nat.reduceBEq, reduceIte, (idx_some hx27).1, (idx_some hx27).2]
              apply obindE h; intro r29 hx30 h
              have hc := nx (r10_only_ok (h := hx30))
              refine pcallK_intro hc (by simp only [go_sem, reduceEqDiff, reduceAdd, reduceSub, reduceMul, reduceLeDiff, reduceLT, Nat.reduceBEq, reduceIte]) ?_
              try simp only [go_sem, reduceEqDiff, reduceAdd, reduceSub, reduceMul, reduceLeDiff, reduceLT, Nat.reduceBEq, reduceIte, (idx_some hx27).1, (idx_some hx27).2]
              apply obindE h; intro s31 hx32 h
              try simp only [go_sem, reduceEqDiff, reduceAdd, reduceSub, reduceMul, reduceLeDiff, reduceLT, Nat.reduceBEq, reduceIte, (idx_some hx27).1, (idx_some hx27).2, bop_cat (P := Tryz.prog) hx32]
              apply obindE h; intro r33 hx34 h
              have hc := nx (r10_only_ok (h := hx34))
              refine pcallK_intro hc (by simp only [go_sem, reduceEqDiff, reduceAdd, reduceSub, reduceMul, reduceLeDiff, reduceLT, Nat.reduceBEq, reduceIte]) ?_
              try simp only [go_sem, reduceEqDiff, reduceAdd, reduceSub, reduceMul, reduceLeDiff, reduceLT, Nat.reduceBEq, reduceIte, (idx_some hx27).1, (idx_some hx27).2, bop_cat (P := Tryz.prog) hx32]
              apply obindE h; intro r35 hx36 h
              have hc := nx (r10_join_ok (h := hx36))
              refine pcallK_intro hc (by simp only [go_sem, reduceEqDiff, reduceAdd, reduceSub, reduceMul, reduceLeDiff, reduceLT, Nat.reduceBEq, reduceIte]) ?_
              try simp only [go_sem, reduceEqDiff, reduceAdd, reduceSub, reduceMul, reduceLeDiff, reduceLT, Nat.reduceBEq, reduceIte, (idx_some hx27).1, (idx_some hx27).2, bop_cat (P := Tryz.prog) hx32]
              apply obindE h; intro r37 hx38 h
              have hc := nx (r10_join_ok (h := hx38))
              refine pcallK_intro hc (by simp only [go_sem, reduceEqDiff, reduceAdd, reduceSub, reduceMul, reduceLeDiff, reduceLT, Nat.reduceBEq, reduceIte]) ?_
              try simp only [go_sem, reduceEqDiff, reduceAdd, reduceSub, reduceMul, reduceLeDiff, reduceLT, Nat.reduceBEq, reduceIte, (idx_some hx27).1, (idx_some hx27).2, bop_cat (P := Tryz.prog) hx32]
              refine JoinQ.mk r37 [0, 1, 2] (Option.some.inj h) (by simp only [go_sem, reduceEqDiff, reduceAdd, reduceSub, reduceMul, reduceLeDiff, reduceLT, Nat.reduceBEq, reduceIte, (idx_some hx27).1, (idx_some hx27).2, bop_cat (P := Tryz.prog) hx32])
            have h := ifF hb28 h
            refine AW.sk ?_
            exact JoinQ.ar i19_1 [0, 1, 2] (Option.some.inj h)
          rintro v24_0 rfl
          have h := hJ25
          try dsimp only [Out.fin] at h
          refine nz ?_
          refine AW.rg mixed ?_
          exact NextQ.ar (IntKind.wrap .i64 (i19_0 + (1 : Int)), v24_0) [0, 1, 2] h
        have h := ifF hb23 h
        refine AW.ex ?_
        exact JoinQ.ar i19_1 [1, 2] (Option.some.inj h)
      rintro e20_0 rfl
      have h := hJ22
      try dsimp only [Out.fin] at h
      refine nz ?_
      refine AW.kp [0, 1] [2, 3] ?_
      refine AW.op mixed ?_
      refine AW.ret ?_
      obtain ⟨_, h, ho⟩ := outM_some h
      rw [ho, Out.fin_out] at hJ2
      have h := h.trans hJ2
      obtain rfl := Option.some.inj h
      refine nz ?_
      exact .same _
    have h := ifF hb14 h
    refine AW.op mixed ?_
    refine AW.kp [0, 1] [1, 2, 6, 54] ?_
    refine AW.ts (p0.op == (57 : Int)) (fun hb39 => ?_) (fun hb39 => ?_)
    · have h := ifT hb39 h
      refine AW.one ?_
      refine AW.reg mixed (by kernel_rfl) ?_
      apply obindE h; intro x40 hx41 h
      try simp only [go_sem, reduceEqDiff, reduceAdd, reduceSub, reduceMul, reduceLeDiff, reduceLT, Nat.reduceBEq, reduceIte, (idx_some hx41).1, (idx_some hx41).2]
      apply obindE h; intro r42 hx43 h
      have hc := nx (hself47 _ _ hx43)
      refine pcallK_intro hc (by simp only [go_sem, reduceEqDiff, reduceAdd, reduceSub, reduceMul, reduceLeDiff, reduceLT, Nat.reduceBEq, reduceIte]) ?_
      apply obindE h; intro x44 hx45 h
      try simp only [go_sem, reduceEqDiff, reduceAdd, reduceSub, reduceMul, reduceLeDiff, reduceLT, Nat.reduceBEq, reduceIte, (idx_some hx41).1, (idx_some hx41).2, (idx_some hx45).1, (idx_some hx45).2]
      apply obindE h; intro r46 hx47 h
      have hc := nx (hself47 _ _ hx47)
      refine pcallK_intro hc (by simp only [go_sem, reduceEqDiff, reduceAdd, reduceSub, reduceMul, reduceLeDiff, reduceLT, Nat.reduceBEq, reduceIte]) ?_
      try simp only [go_sem, reduceEqDiff, reduceAdd, reduceSub, reduceMul, reduceLeDiff, reduceLT, Nat.reduceBEq, reduceIte, (idx_some hx41).1, (idx_some hx41).2, (idx_some hx45).1, (idx_some hx45).2]
      apply obindE h; intro r48 hx49 h
      have hc := nx (r10_join_ok (h := hx49))
      refine pcallK_intro hc (by simp only [go_sem, reduceEqDiff, reduceAdd, reduceSub, reduceMul, reduceLeDiff, reduceLT, Nat.reduceBEq, reduceIte]) ?_
      try simp only [go_sem, reduceEqDiff, reduceAdd, reduceSub, reduceMul, reduceLeDiff, reduceLT, Nat.reduceBEq, reduceIte, (idx_some hx41).1, (idx_some hx41).2, (idx_some hx45).1, (idx_some hx45).2]
      refine AW.ret ?_
      obtain ⟨_, h, ho⟩ := outM_some h
      rw [ho, Out.fin_out] at hJ2
      have h := h.trans hJ2
      obtain rfl := Option.some.inj h
      refine nz ?_
      exact .same _
    have h := ifF hb39 h
    refine AW.op mixed ?_
    refine AW.kp [0, 1] [1, 2, 6, 67] ?_
    refine AW.ts (p0.op == (58 : Int)) (fun hb50 => ?_) (fun hb50 => ?_)
    · have h := ifT hb50 h
      refine AW.one ?_
      refine AW.reg mixed (by kernel_rfl) ?_
      apply obindE h; intro x51 hx52 h
      try simp only [go_sem, reduceEqDiff, reduceAdd, reduceSub, reduceMul, reduceLeDiff, reduceLT, Nat.reduceBEq, reduceIte, (idx_some hx52).1, (idx_some hx52).2]
      apply obindE h; intro r53 hx54 h
      have hc := nx (hself47 _ _ hx54)
      refine pcallK_intro hc (by simp only [go_sem, reduceEqDiff, reduceAdd, reduceSub, reduceMul, reduceLeDiff, reduceLT, Nat.reduceBEq, reduceIte]) ?_
      apply obindE h; intro x55 hx56 h
      try simp only [go_sem, reduceEqDiff, reduceAdd, reduceSub, reduceMul, reduceLeDiff, reduceLT, Nat.reduceBEq, reduceIte, (idx_some hx52).1, (idx_some hx52).2, (idx_some hx56).1, (idx_some hx56).2]
      apply obindE h; intro r57 hx58 h
      have hc := nx (hself47 _ _ hx58)
      refine pcallK_intro hc (by simp only [go_sem, reduceEqDiff, reduceAdd, reduceSub, reduceMul, reduceLeDiff, reduceLT, Nat.reduceBEq, reduceIte]) ?_
      try simp only [go_sem, reduceEqDiff, reduceAdd, reduceSub, reduceMul, reduceLeDiff, reduceLT, Nat.reduceBEq, reduceIte, (idx_some hx52).1, (idx_some hx52).2, (idx_some hx56).1, (idx_some hx56).2]
      apply obindE h; intro r59 hx60 h
      have hc := nx (r10_meet_ok (h := hx60))
      refine pcallK_intro hc (by simp only [go_sem, reduceEqDiff, reduceAdd, reduceSub, reduceMul, reduceLeDiff, reduceLT, Nat.reduceBEq, reduceIte]) ?_
      try simp only [go_sem, reduceEqDiff, reduceAdd, reduceSub, reduceMul, reduceLeDiff, reduceLT, Nat.reduceBEq, reduceIte, (idx_some hx52).1, (idx_some hx52).2, (idx_some hx56).1, (idx_some hx56).2]
      refine AW.ret ?_
      obtain ⟨_, h, ho⟩ := outM_some h
      rw [ho, Out.fin_out] at hJ2
      have h := h.trans hJ2
      obtain rfl := Option.some.inj h
      refine nz ?_
      exact .same _
    have h := ifF hb50 h
    refine AW.op mixed ?_
    refine AW.kp [0, 1] [1, 2, 80] ?_
    refine AW.ts (p0.op == (60 : Int)) (fun hb61 => ?_) (fun hb61 => ?_)
    · have h := ifT hb61 h
      refine AW.one ?_
      refine AW.reg mixed (by kernel_rfl) ?_
      apply obindE h; intro x62 hx63 h
      try simp only [go_sem, reduceEqDiff, reduceAdd, reduceSub, reduceMul, reduceLeDiff, reduceLT, Nat.reduceBEq, reduceIte, (idx_some hx63).1, (idx_some hx63).2]
      apply obindE h; intro r64 hx65 h
      have hc := nx (hself47 _ _ hx65)
      refine callK_pure hc (by simp only [go_sem, reduceEqDiff, reduceAdd, reduceSub, reduceMul, reduceLeDiff, reduceLT, Nat.reduceBEq, reduceIte]) ?_
      try simp only [go_sem, reduceEqDiff, reduceAdd, reduceSub, reduceMul, reduceLeDiff, reduceLT, Nat.reduceBEq, reduceIte, (idx_some hx63).1, (idx_some hx63).2]
      refine AW.ret ?_
      obtain ⟨_, h, ho⟩ := outM_some h
      rw [ho, Out.fin_out] at hJ2
      have h := h.trans hJ2
      obtain rfl := Option.some.inj h
      refine nz ?_
      exact .same _
    have h := ifF hb61 h
    refine AW.sk ?_
    exact JoinQ.ar () [1] (Option.some.inj h).symm
  rintro ⟨⟩ rfl
  have h := hJ2
  try dsimp only [Out.fin] at h
  refine nz ?_
  refine AW.op mixed ?_
  refine AW.ret ?_
  obtain rfl := Option.some.inj h
  refine nz ?_
  exact .aggL ⟨.same _, .nil, trivial⟩
def r10_must (K : Nat) (p0 : NodeA) : Option Api_NamesA := iter K (fun self q => r10_must_body K self q) p0
theorem key_r10_must {K : Nat} (k : Nat) : (∀ (q : NodeA) (r : Api_NamesA), iter k (fun self q => r10_must_body K self q) q = some r → Cn Tryz.prog 47 [aggV q.enc] (aggV r.enc)) := by
  induction k with
  | zero => exact fun q r h => by cases h
  | succ k ih => exact fun q r h => r10_must_step K _ ih q r h
theorem r10_must_ok {K : Nat} {p0 : NodeA} {r : Api_NamesA} (h : r10_must K p0 = some r) : Cn Tryz.prog 47 [aggV p0.enc] (aggV r.enc) := (key_r10_must K) p0 r h
/-! ### isochrone/isochroneref10.primed -/
def r10_primed (K : Nat) (p0 : Api_NamesA) : Option Api_NamesA := ((iter (S := Int × Api_NamesA) (R := Api_NamesA) K (fun again (i1_0, i1_1) => 
    if (decide (i1_0 < (p0.list.length : Int))) then
      ((
        (idx p0.list i1_0).bind fun x8 => 
        (strAt x8 (IntKind.wrap .i64 ((x8.size : Int) - (1 : Int)))).bind fun c10 => 
        if ((c10.toNat : Int) != (39 : Int)) then
          (catO x8 (⟨#[39]⟩ : ByteArray)).bind fun s13 => 
          (r10_only K s13).bind fun r15 => 
          (r10_join K i1_1 r15).bind fun r17 => 
          some r17
        else
          some i1_1) : Option Api_NamesA).bind (fun v6_0 => 
      again (IntKind.wrap .i64 (i1_0 + (1 : Int)), v6_0))
    else
      some i1_1) ((0 : Int), p0)) : Option Api_NamesA).bind (fun e2_0 => 
  some e2_0)
set_option maxHeartbeats 4000000 in
theorem r10_primed_ok {K : Nat} {p0 : Api_NamesA} {r : Api_NamesA} (h : r10_primed K p0 = some r) : Cn Tryz.prog 84 [aggV p0.enc] (aggV r.enc) := by
  refine Cn.ofA mixed Tryz.func84 rfl Tryz.call84 Tryz.ntmps84 Tryz.results84 (by simp) (by simp only [go_sem, reduceEqDiff, reduceAdd, reduceSub, reduceMul, reduceLeDiff, reduceLT, Nat.reduceBEq, reduceIte]) fun hfit => ?_
  unfold r10_primed at h
  refine AW.kp [] [0] ?_
  refine AW.op mixed ?_
  refine AW.kp [0, 1] [1, 2] ?_
  refine AW.op mixed ?_
  refine AW.kp [0, 1, 3] [1, 2, 3] ?_
  refine AW.one ?_
  refine AW.op mixed ?_
  refine AW.kp [0, 1, 2] [1, 2, 3, 4] ?_
  refine obindE h fun oJ4 h hJ4 => ?_
  refine AW.join (S := Api_NamesA) (fun e2_0 => [(2, .ptr 0 2 0 0), (3, .ptr 1 2 0 0)]) (fun e2_0 => [some ⟨2, [[.d (.val (.bool false)), .d (.val (.slice none 0 0))]]⟩, some ⟨2, [[.d (.val (.bool e2_0.all)), .d (slD strV e2_0.list)]]⟩]) (fun x => x = oJ4) ?_ ?_
  · refine AW.block ?_
    refine AW.iter (S := Int × Api_NamesA) (fun (i1_0, i1_1) => [(1, .ptr 0 2 0 0), (2, .ptr 1 2 0 0), (3, .ptr 2 2 0 0), (4, .d (.val (.int .i64 i1_0)))]) (fun (i1_0, i1_1) => [some ⟨2, [[.d (.val (.bool p0.all)), .d (slD strV p0.list)]]⟩, some ⟨2, [[.d (.val (.bool false)), .d (.val (.slice none 0 0))]]⟩, some ⟨2, [[.d (.val (.bool i1_1.all)), .d (slD strV i1_1.list)]]⟩]) [0, 1, 2] h (by simp only [go_sem, reduceEqDiff, reduceAdd, reduceSub, reduceMul, reduceLeDiff, reduceLT, Nat.reduceBEq, reduceIte]) ?_
    rintro again ⟨i1_0, i1_1⟩ h
    try dsimp only at h
    refine AW.one ?_
    refine AW.op mixed ?_
    refine AW.kp [0, 1, 2] [1, 2, 3, 4, 11] ?_
    refine AW.ts (decide (i1_0 < (p0.list.length : Int))) (fun hb5 => ?_) (fun hb5 => ?_)
    · have h := ifT hb5 h
      refine AW.sk ?_
      refine AW.kp [0, 1, 2] [1, 2, 3, 4] ?_
      refine AW.one ?_
      refine obindE h fun oJ7 h hJ7 => ?_
      refine AW.join (S := Api_NamesA) (fun v6_0 => [(1, .ptr 0 2 0 0), (2, .ptr 1 2 0 0), (3, .ptr 2 2 0 0), (4, .d (.val (.int .i64 i1_0)))]) (fun v6_0 => [some ⟨2, [[.d (.val (.bool p0.all)), .d (slD strV p0.list)]]⟩, some ⟨2, [[.d (.val (.bool false)), .d (.val (.slice none 0 0))]]⟩, some ⟨2, [[.d (.val (.bool v6_0.all)), .d (slD strV v6_0.list)]]⟩]) (fun x => x = oJ7) ?_ ?_
      · skip
        refine AW.block ?_
        refine AW.one ?_
        refine AW.reg mixed (by kernel_rfl) ?_
        apply obindE h; intro x8 hx9 h
        try simp only [go_sem, reduceEqDiff, reduceAdd, reduceSub, reduceMul, reduceLeDiff, reduceLT, Nat.reduceBEq, reduceIte, (idx_some hx9).1, (idx_some hx9).2]
        refine AW.cut [0, 1, 2] [(1, .ptr 0 2 0 0), (2, .ptr 1 2 0 0), (3, .ptr 2 2 0 0), (4, .d (.val (.int .i64 i1_0))), (5, .d (.val (.string x8)))] [some ⟨2, [[.d (.val (.bool p0.all)), .d (slD strV p0.list)]]⟩, some ⟨2, [[.d (.val (.bool false)), .d (.val (.slice none 0 0))]]⟩, some ⟨2, [[.d (.val (.bool i1_1.all)), .d (slD strV i1_1.list)]]⟩] (by simp only [go_sem, reduceEqDiff, reduceAdd, reduceSub, reduceMul, reduceLeDiff, reduceLT, Nat.reduceBEq, reduceIte, (idx_some hx9).1, (idx_some hx9).2]) ?_
        refine AW.one ?_
        refine AW.reg mixed (by kernel_rfl) ?_
        apply obindE h; intro c10 hx11 h
        try simp only [go_sem, reduceEqDiff, reduceAdd, reduceSub, reduceMul, reduceLeDiff, reduceLT, Nat.reduceBEq, reduceIte, hx11]
        refine AW.cut [0, 1, 2] [(1, .ptr 0 2 0 0), (2, .ptr 1 2 0 0), (3, .ptr 2 2 0 0), (4, .d (.val (.int .i64 i1_0))), (5, .d (.val (.string x8))), (24, .d (.val (.bool ((c10.toNat : Int) != (39 : Int)))))] [some ⟨2, [[.d (.val (.bool p0.all)), .d (slD strV p0.list)]]⟩, some ⟨2, [[.d (.val (.bool false)), .d (.val (.slice none 0 0))]]⟩, some ⟨2, [[.d (.val (.bool i1_1.all)), .d (slD strV i1_1.list)]]⟩] (by simp only [go_sem, reduceEqDiff, reduceAdd, reduceSub, reduceMul, reduceLeDiff, reduceLT, Nat.reduceBEq, reduceIte, hx11]) ?_
        refine AW.ts ((c10.toNat : Int) != (39 : Int)) (fun hb12 => ?_) (fun hb12 => ?_)
        · have h := ifT hb12 h
          refine AW.rg mixed ?_
          apply obindE h; intro s13 hx14 h
          try simp only [go_sem, reduceEqDiff, reduceAdd, reduceSub, reduceMul, reduceLeDiff, reduceLT, Nat.reduceBEq, reduceIte, bop_cat (P := Tryz.prog) hx14]
          apply obindE h; intro r15 hx16 h
          have hc := nx (r10_only_ok (h := hx16))
          refine pcallK_intro hc (by simp only [go_sem, reduceEqDiff, reduceAdd, reduceSub, reduceMul, reduceLeDiff, reduceLT, Nat.reduceBEq, reduceIte]) ?_
          try simp only [go_sem, reduceEqDiff, reduceAdd, reduceSub, reduceMul, reduceLeDiff, reduceLT, Nat.reduceBEq, reduceIte, bop_cat (P := Tryz.prog) hx14]
          apply obindE h; intro r17 hx18 h
          have hc := nx (r10_join_ok (h := hx18))
          refine pcallK_intro hc (by simp only [go_sem, reduceEqDiff, reduceAdd, reduceSub, reduceMul, reduceLeDiff, reduceLT, Nat.reduceBEq, reduceIte]) ?_
          try simp only [go_sem, reduceEqDiff, reduceAdd, reduceSub, reduceMul, reduceLeDiff, reduceLT, Nat.reduceBEq, reduceIte, bop_cat (P := Tryz.prog) hx14]
          refine JoinQ.mk r17 [0, 1, 2] (Option.some.inj h) (by simp only [go_sem, reduceEqDiff, reduceAdd, reduceSub, reduceMul, reduceLeDiff, reduceLT, Nat.reduceBEq, reduceIte, bop_cat (P := Tryz.prog) hx14])
        have h := ifF hb12 h
        refine AW.sk ?_
        exact JoinQ.ar i1_1 [0, 1, 2] (Option.some.inj h)
      rintro v6_0 rfl
      have h := hJ7
      try dsimp only [Out.fin] at h
      refine nz ?_
      refine AW.rg mixed ?_
      exact NextQ.ar (IntKind.wrap .i64 (i1_0 + (1 : Int)), v6_0) [0, 1, 2] h
    have h := ifF hb5 h
    refine AW.ex ?_
    exact JoinQ.ar i1_1 [1, 2] (Option.some.inj h)
  rintro e2_0 rfl
  have h := hJ4
  try dsimp only [Out.fin] at h
  refine nz ?_
  refine AW.kp [0, 1] [2, 3] ?_
  refine AW.op mixed ?_
  refine AW.ret ?_
  obtain rfl := Option.some.inj h
  refine nz ?_
  exact .same _
/-! ### isochrone/isochroneref10.free -/
def r10_free_body (K : Nat) (self43 : NodeA → Option Api_NamesA) (p0 : NodeA) : Option Api_NamesA := ((
    if (p0.op == (2 : Int)) then
      (r10_only K p0.name).bind fun r4 => 
      outM (
        some r4)
    else
      if (p0.op == (3 : Int)) then
        (catO p0.name (⟨#[39]⟩ : ByteArray)).bind fun s7 => 
        (r10_only K s7).bind fun r9 => 
        outM (
          some r9)
      else
        ((
          if (p0.op == (11 : Int)) then
            some (p0.op == (11 : Int))
          else
            if (p0.op == (38 : Int)) then
              some (p0.op == (38 : Int))
            else
              if (p0.op == (61 : Int)) then
                some (p0.op == (61 : Int))
              else
                if (p0.op == (62 : Int)) then
                  some (p0.op == (62 : Int))
                else
                  some (p0.op == (56 : Int))) : Option Bool).bind (fun v11_0 => 
        if v11_0 then
          outM (
            some (Api_NamesA.mk true []))
        else
          ((
            if (p0.op == (12 : Int)) then
              some (p0.op == (12 : Int))
            else
              some (p0.op == (39 : Int))) : Option Bool).bind (fun v18_0 => 
          if v18_0 then
            (idx p0.kids (0 : Int)).bind fun x22 => 
            (self43 (x22)).bind fun r24 => 
            if r24.all then
              outM (
                some (Api_NamesA.mk true []))
            else
              (r10_primed K r24).bind fun r27 => 
              outM (
                some r27)
          else
            ((
              if (p0.op == (33 : Int)) then
                some (p0.op == (33 : Int))
              else
                some (p0.op == (34 : Int))) : Option Bool).bind (fun v29_0 => 
            if v29_0 then
              (idx p0.kids (0 : Int)).bind fun x33 => 
              (self43 (x33)).bind fun r35 => 
              (r10_only K p0.name).bind fun r37 => 
              (r10_minus K r35 r37).bind fun r39 => 
              outM (
                some r39)
            else
              ((
                if (p0.op == (35 : Int)) then
                  some (p0.op == (35 : Int))
                else
                  if (p0.op == (36 : Int)) then
                    some (p0.op == (36 : Int))
                  else
                    some (p0.op == (57 : Int))) : Option Bool).bind (fun v41_0 => 
              if v41_0 then
                (idx p0.kids (0 : Int)).bind fun x46 => 
                (self43 (x46)).bind fun r48 => 
                (idx p0.kids (1 : Int)).bind fun x50 => 
                (self43 (x50)).bind fun r52 => 
                (r10_must K x46).bind fun r54 => 
                (r10_minus K r52 r54).bind fun r56 => 
                (r10_join K r48 r56).bind fun r58 => 
                outM (
                  some r58)
              else
                some (.go ())))))) : Option (Out Unit _)).bind (Out.fin fun _ => 
  ((iter (S := Int × Api_NamesA) (R := Api_NamesA) K (fun again (i64_0, i64_1) => 
    if (decide (i64_0 < (p0.kids.length : Int))) then
      (idx p0.kids i64_0).bind fun x69 => 
      (self43 (x69)).bind fun r71 => 
      (r10_join K i64_1 r71).bind fun r73 => 
      again (IntKind.wrap .i64 (i64_0 + (1 : Int)), r73)
    else
      some i64_1) ((0 : Int), (Api_NamesA.mk false []))) : Option Api_NamesA).bind (fun e65_0 => 
  ((
    if (p0.op == (55 : Int)) then
      (r10_only K p0.name).bind fun r78 => 
      (r10_join K e65_0 r78).bind fun r80 => 
      some r80
    else
      some e65_0) : Option Api_NamesA).bind (fun v75_0 => 
  some v75_0)))
set_option maxHeartbeats 4000000 in
theorem r10_free_step (K : Nat) (self43 : NodeA → Option Api_NamesA) (hself43 : ∀ (q : NodeA) (r : Api_NamesA), self43 q = some r → Cn Tryz.prog 43 [aggV q.enc] (aggV r.enc)) (p0 : NodeA) (r : Api_NamesA) (h : r10_free_body K self43 p0 = some r) : Cn Tryz.prog 43 [aggV p0.enc] (aggV r.enc) := by
  refine Cn.ofA mixed Tryz.func43 rfl Tryz.call43 Tryz.ntmps43 Tryz.results43 (by simp) (by simp only [go_sem, reduceEqDiff, reduceAdd, reduceSub, reduceMul, reduceLeDiff, reduceLT, Nat.reduceBEq, reduceIte]) fun hfit => ?_
  unfold r10_free_body at h
  refine AW.kp [] [0] ?_
  refine AW.op mixed ?_
  refine AW.kp [0, 1] [1, 2] ?_
  refine AW.one ?_
  refine obindE h fun oJ2 h hJ2 => ?_
  refine AW.join (S := Unit) (fun _ => [(1, .ptr 0 6 0 0), (2, .ptr 1 2 0 0)]) (fun _ => [some ⟨6, [[.d (.val (.int .i64 p0.op)), .d (.val (.string p0.name)), .d (.val (.bool p0.num.neg)), .d (slD u32V p0.num.num), .d (slD u32V p0.num.den), .d (slD NodeA.enc p0.kids)]]⟩, some ⟨2, [[.d (.val (.bool false)), .d (.val (.slice none 0 0))]]⟩]) (fun x => oJ2 = .go x) ?_ ?_
  · skip
    refine AW.op mixed ?_
    refine AW.kp [0, 1] [1, 2, 7] ?_
    refine AW.block ?_
    refine AW.op mixed ?_
    refine AW.kp [0, 1] [1, 2, 7, 8] ?_
    refine AW.ts (p0.op == (2 : Int)) (fun hb3 => ?_) (fun hb3 => ?_)
    · have h := ifT hb3 h
      refine AW.op mixed ?_
      apply obindE h; intro r4 hx5 h
      have hc := nx (r10_only_ok (h := hx5))
      refine callP hc ?_
      refine AW.ret ?_
      obtain ⟨_, h, ho⟩ := outM_some h
      rw [ho, Out.fin_out] at hJ2
      have h := h.trans hJ2
      obtain rfl := Option.some.inj h
      refine nz ?_
      exact .same _
    have h := ifF hb3 h
    refine AW.op mixed ?_
    refine AW.kp [0, 1] [1, 2, 7, 13] ?_
    refine AW.ts (p0.op == (3 : Int)) (fun hb6 => ?_) (fun hb6 => ?_)
    · have h := ifT hb6 h
      refine AW.op mixed ?_
      apply obindE h; intro s7 hx8 h
      try simp only [go_sem, reduceEqDiff, reduceAdd, reduceSub, reduceMul, reduceLeDiff, reduceLT, Nat.reduceBEq, reduceIte, bop_cat (P := Tryz.prog) hx8]
      apply obindE h; intro r9 hx10 h
      have hc := nx (r10_only_ok (h := hx10))
      refine callK_pure hc (by simp only [go_sem, reduceEqDiff, reduceAdd, reduceSub, reduceMul, reduceLeDiff, reduceLT, Nat.reduceBEq, reduceIte]) ?_
      try simp only [go_sem, reduceEqDiff, reduceAdd, reduceSub, reduceMul, reduceLeDiff, reduceLT, Nat.reduceBEq, reduceIte, bop_cat (P := Tryz.prog) hx8]
      refine AW.ret ?_
      obtain ⟨_, h, ho⟩ := outM_some h
      rw [ho, Out.fin_out] at hJ2
      have h := h.trans hJ2
      obtain rfl := Option.some.inj h
      refine nz ?_
      exact .same _
    have h := ifF hb6 h
    refine AW.one ?_
    refine obindE h fun oJ12 h hJ12 => ?_
    refine AW.join (S := Bool) (fun v11_0 => [(1, .ptr 0 6 0 0), (2, .ptr 1 2 0 0), (7, .d (.val (.int .i64 p0.op))), (19, .d (.val (.bool v11_0)))]) (fun v11_0 => [some ⟨6, [[.d (.val (.int .i64 p0.op)), .d (.val (.string p0.name)), .d (.val (.bool p0.num.neg)), .d (slD u32V p0.num.num), .d (slD u32V p0.num.den), .d (slD NodeA.enc p0.kids)]]⟩, some ⟨2, [[.d (.val (.bool false)), .d (.val (.slice none 0 0))]]⟩]) (fun x => x = oJ12) ?_ ?_
    · skip
      refine AW.op mixed ?_
      refine AW.kp [0, 1] [1, 2, 7, 19] ?_
      refine AW.ts (p0.op == (11 : Int)) (fun hb13 => ?_) (fun hb13 => ?_)
      · have h := ifT hb13 h
        refine AW.sk ?_
        exact JoinQ.ar (p0.op == (11 : Int)) [0, 1] (Option.some.inj h)
      have h := ifF hb13 h
      refine AW.op mixed ?_
      refine AW.kp [0, 1] [1, 2, 7, 19] ?_
      refine AW.ts (p0.op == (38 : Int)) (fun hb14 => ?_) (fun hb14 => ?_)
      · have h := ifT hb14 h
        refine AW.sk ?_
        exact JoinQ.ar (p0.op == (38 : Int)) [0, 1] (Option.some.inj h)
      have h := ifF hb14 h
      refine AW.op mixed ?_
      refine AW.kp [0, 1] [1, 2, 7, 19] ?_
      refine AW.ts (p0.op == (61 : Int)) (fun hb15 => ?_) (fun hb15 => ?_)
      · have h := ifT hb15 h
        refine AW.sk ?_
        exact JoinQ.ar (p0.op == (61 : Int)) [0, 1] (Option.some.inj h)
      have h := ifF hb15 h
      refine AW.op mixed ?_
      refine AW.kp [0, 1] [1, 2, 7, 19] ?_
      refine AW.ts (p0.op == (62 : Int)) (fun hb16 => ?_) (fun hb16 => ?_)
      · have h := ifT hb16 h
        refine AW.sk ?_
        exact JoinQ.ar (p0.op == (62 : Int)) [0, 1] (Option.some.inj h)
      have h := ifF hb16 h
      refine AW.rg mixed ?_
      exact JoinQ.ar (p0.op == (56 : Int)) [0, 1] (Option.some.inj h)
    rintro v11_0 rfl
    have h := hJ12
    try dsimp only [Out.fin] at h
    refine nz ?_
    refine AW.ts v11_0 (fun hb17 => ?_) (fun hb17 => ?_)
    · have h := ifT hb17 h
      refine AW.op mixed ?_
      refine AW.ret ?_
      obtain ⟨_, h, ho⟩ := outM_some h
      rw [ho, Out.fin_out] at hJ2
      have h := h.trans hJ2
      obtain rfl := Option.some.inj h
      refine nz ?_
      exact .aggL ⟨.same _, .nil, trivial⟩
    have h := ifF hb17 h
    refine AW.one ?_
    refine obindE h fun oJ19 h hJ19 => ?_
    refine AW.join (S := Bool) (fun v18_0 => [(1, .ptr 0 6 0 0), (2, .ptr 1 2 0 0), (7, .d (.val (.int .i64 p0.op))), (26, .d (.val (.bool v18_0)))]) (fun v18_0 => [some ⟨6, [[.d (.val (.int .i64 p0.op)), .d (.val (.string p0.name)), .d (.val (.bool p0.num.neg)), .d (slD u32V p0.num.num), .d (slD u32V p0.num.den), .d (slD NodeA.enc p0.kids)]]⟩, some ⟨2, [[.d (.val (.bool false)), .d (.val (.slice none 0 0))]]⟩]) (fun x => x = oJ19) ?_ ?_
    · skip
      refine AW.op mixed ?_
      refine AW.kp [0, 1] [1, 2, 7, 26] ?_
      refine AW.ts (p0.op == (12 : Int)) (fun hb20 => ?_) (fun hb20 => ?_)
      · have h := ifT hb20 h
        refine AW.sk ?_
        exact JoinQ.ar (p0.op == (12 : Int)) [0, 1] (Option.some.inj h)
      have h := ifF hb20 h
      refine AW.rg mixed ?_
      exact JoinQ.ar (p0.op == (39 : Int)) [0, 1] (Option.some.inj h)
    rintro v18_0 rfl
    have h := hJ19
    try dsimp only [Out.fin] at h
    refine nz ?_
    refine AW.ts v18_0 (fun hb21 => ?_) (fun hb21 => ?_)
    · have h := ifT hb21 h
      refine AW.one ?_
      refine AW.reg mixed (by kernel_rfl) ?_
      apply obindE h; intro x22 hx23 h
      try simp only [go_sem, reduceEqDiff, reduceAdd, reduceSub, reduceMul, reduceLeDiff, reduceLT, Nat.reduceBEq, reduceIte, (idx_some hx23).1, (idx_some hx23).2]
      apply obindE h; intro r24 hx25 h
      have hc := nx (hself43 _ _ hx25)
      refine callK_pure hc (by simp only [go_sem, reduceEqDiff, reduceAdd, reduceSub, reduceMul, reduceLeDiff, reduceLT, Nat.reduceBEq, reduceIte]) ?_
      try simp only [go_sem, reduceEqDiff, reduceAdd, reduceSub, reduceMul, reduceLeDiff, reduceLT, Nat.reduceBEq, reduceIte, (idx_some hx23).1, (idx_some hx23).2]
      refine AW.cut [1, 7] [(2, .ptr 0 2 0 0), (3, .ptr 1 2 0 0)] [some ⟨2, [[.d (.val (.bool false)), .d (.val (.slice none 0 0))]]⟩, some ⟨2, [[.d (.val (.bool r24.all)), .d (slD strV r24.list)]]⟩] (by simp only [go_sem, reduceEqDiff, reduceAdd, reduceSub, reduceMul, reduceLeDiff, reduceLT, Nat.reduceBEq, reduceIte, (idx_some hx23).1, (idx_some hx23).2]) ?_
      refine AW.one ?_
      refine AW.op mixed ?_
      refine AW.kp [0, 1] [2, 3, 35] ?_
      refine AW.ts r24.all (fun hb26 => ?_) (fun hb26 => ?_)
      · have h := ifT hb26 h
        refine AW.op mixed ?_
        refine AW.ret ?_
        obtain ⟨_, h, ho⟩ := outM_some h
        rw [ho, Out.fin_out] at hJ2
        have h := h.trans hJ2
        obtain rfl := Option.some.inj h
        refine nz ?_
        exact .aggL ⟨.same _, .nil, trivial⟩
      have h := ifF hb26 h
      refine AW.sk ?_
      refine AW.kp [0, 1] [2, 3] ?_
      refine AW.op mixed ?_
      apply obindE h; intro r27 hx28 h
      have hc := nx (r10_primed_ok (h := hx28))
      refine callP hc ?_
      refine AW.ret ?_
      obtain ⟨_, h, ho⟩ := outM_some h
      rw [ho, Out.fin_out] at hJ2
      have h := h.trans hJ2
      obtain rfl := Option.some.inj h
      refine nz ?_
      exact .same _
    have h := ifF hb21 h
    refine AW.one ?_
    refine obindE h fun oJ30 h hJ30 => ?_
    refine AW.join (S := Bool) (fun v29_0 => [(1, .ptr 0 6 0 0), (2, .ptr 1 2 0 0), (7, .d (.val (.int .i64 p0.op))), (39, .d (.val (.bool v29_0)))]) (fun v29_0 => [some ⟨6, [[.d (.val (.int .i64 p0.op)), .d (.val (.string p0.name)), .d (.val (.bool p0.num.neg)), .d (slD u32V p0.num.num), .d (slD u32V p0.num.den), .d (slD NodeA.enc p0.kids)]]⟩, some ⟨2, [[.d (.val (.bool false)), .d (.val (.slice none 0 0))]]⟩]) (fun x => x = oJ30) ?_ ?_
    · skip
      refine AW.op mixed ?_
      refine AW.kp [0, 1] [1, 2, 7, 39] ?_
      refine AW.ts (p0.op == (33 : Int)) (fun hb31 => ?_) (fun hb31 => ?_)
      · have h := ifT hb31 h
        refine AW.sk ?_
        exact JoinQ.ar (p0.op == (33 : Int)) [0, 1] (Option.some.inj h)
      have h := ifF hb31 h
      refine AW.rg mixed ?_
      exact JoinQ.ar (p0.op == (34 : Int)) [0, 1] (Option.some.inj h)
    rintro v29_0 rfl
    have h := hJ30
    try dsimp only [Out.fin] at h
    refine nz ?_
    refine AW.ts v29_0 (fun hb32 => ?_) (fun hb32 => ?_)
    · have h := ifT hb32 h
      refine AW.one ?_
      refine AW.reg mixed (by kernel_rfl) ?_
      apply obindE h; intro x33 hx34 h
      try simp only [go_sem, reduceEqDiff, reduceAdd, reduceSub, reduceMul, reduceLeDiff, reduceLT, Nat.reduceBEq, reduceIte, (idx_some hx34).1, (idx_some hx34).2]
      apply obindE h; intro r35 hx36 h
      have hc := nx (hself43 _ _ hx36)
      refine pcallK_intro hc (by simp only [go_sem, reduceEqDiff, reduceAdd, reduceSub, reduceMul, reduceLeDiff, reduceLT, Nat.reduceBEq, reduceIte]) ?_
      try simp only [go_sem, reduceEqDiff, reduceAdd, reduceSub, reduceMul, reduceLeDiff, reduceLT, Nat.reduceBEq, reduceIte, (idx_some hx34).1, (idx_some hx34).2]
      apply obindE h; intro r37 hx38 h
      have hc := nx (r10_only_ok (h := hx38))
      refine pcallK_intro hc (by simp only [go_sem, reduceEqDiff, reduceAdd, reduceSub, reduceMul, reduceLeDiff, reduceLT, Nat.reduceBEq, reduceIte]) ?_
      try simp only [go_sem, reduceEqDiff, reduceAdd, reduceSub, reduceMul, reduceLeDiff, reduceLT, Nat.reduceBEq, reduceIte, (idx_some hx34).1, (idx_some hx34).2]
      apply obindE h; intro r39 hx40 h
      have hc := nx (r10_minus_ok (h := hx40))
      refine pcallK_intro hc (by simp only [go_sem, reduceEqDiff, reduceAdd, reduceSub, reduceMul, reduceLeDiff, reduceLT, Nat.reduceBEq, reduceIte]) ?_
      try simp only [go_sem, reduceEqDiff, reduceAdd, reduceSub, reduceMul, reduceLeDiff, reduceLT, Nat.reduceBEq, reduceIte, (idx_some hx34).1, (idx_some hx34).2]
      refine AW.ret ?_
      obtain ⟨_, h, ho⟩ := outM_some h
      rw [ho, Out.fin_out] at hJ2
      have h := h.trans hJ2
      obtain rfl := Option.some.inj h
      refine nz ?_
      exact .same _
    have h := ifF hb32 h
    refine AW.one ?_
    refine obindE h fun oJ42 h hJ42 => ?_
    refine AW.join (S := Bool) (fun v41_0 => [(1, .ptr 0 6 0 0), (2, .ptr 1 2 0 0), (51, .d (.val (.bool v41_0)))]) (fun v41_0 => [some ⟨6, [[.d (.val (.int .i64 p0.op)), .d (.val (.string p0.name)), .d (.val (.bool p0.num.neg)), .d (slD u32V p0.num.num), .d (slD u32V p0.num.den), .d (slD NodeA.enc p0.kids)]]⟩, some ⟨2, [[.d (.val (.bool false)), .d (.val (.slice none 0 0))]]⟩]) (fun x => x = oJ42) ?_ ?_
    · skip
      refine AW.op mixed ?_
      refine AW.kp [0, 1] [1, 2, 7, 51] ?_
      refine AW.ts (p0.op == (35 : Int)) (fun hb43 => ?_) (fun hb43 => ?_)
      · have h := ifT hb43 h
        refine AW.sk ?_
        exact JoinQ.ar (p0.op == (35 : Int)) [0, 1] (Option.some.inj h)
      have h := ifF hb43 h
      refine AW.op mixed ?_
      refine AW.kp [0, 1] [1, 2, 7, 51] ?_
      refine AW.ts (p0.op == (36 : Int)) (fun hb44 => ?_) (fun hb44 => ?_)
      · have h := ifT hb44 h
        refine AW.sk ?_
        exact JoinQ.ar (p0.op == (36 : Int)) [0, 1] (Option.some.inj h)
      have h := ifF hb44 h
      refine AW.rg mixed ?_
      exact JoinQ.ar (p0.op == (57 : Int)) [0, 1] (Option.some.inj h)
    rintro v41_0 rfl
    have h := hJ42
    try dsimp only [Out.fin] at h
    refine nz ?_
    refine AW.ts v41_0 (fun hb45 => ?_) (fun hb45 => ?_)
    · have h := ifT hb45 h
      refine AW.one ?_
      refine AW.reg mixed (by kernel_rfl) ?_
      apply obindE h; intro x46 hx47 h
      try simp only [go_sem, reduceEqDiff, reduceAdd, reduceSub, reduceMul, reduceLeDiff, reduceLT, Nat.reduceBEq, reduceIte, (idx_some hx47).1, (idx_some hx47).2]
      apply obindE h; intro r48 hx49 h
      have hc := nx (hself43 _ _ hx49)
      refine pcallK_intro hc (by simp only [go_sem, reduceEqDiff, reduceAdd, reduceSub, reduceMul, reduceLeDiff, reduceLT, Nat.reduceBEq, reduceIte]) ?_
      apply obindE h; intro x50 hx51 h
      try simp only [go_sem, reduceEqDiff, reduceAdd, reduceSub, reduceMul, reduceLeDiff, reduceLT, Nat.reduceBEq, reduceIte, (idx_some hx47).1, (idx_some hx47).2, (idx_some hx51).1, (idx_some hx51).2]
      apply obindE h; intro r52 hx53 h
      have hc := nx (hself43 _ _ hx53)
      refine pcallK_intro hc (by simp only [go_sem, reduceEqDiff, reduceAdd, reduceSub, reduceMul, reduceLeDiff, reduceLT, Nat.reduceBEq, reduceIte]) ?_
      try simp only [go_sem, reduceEqDiff, reduceAdd, reduceSub, reduceMul, reduceLeDiff, reduceLT, Nat.reduceBEq, reduceIte, (idx_some hx47).1, (idx_some hx47).2, (idx_some hx51).1, (idx_some hx51).2]
      apply obindE h; intro r54 hx55 h
      have hc := nx (r10_must_ok (h := hx55))
      refine pcallK_intro hc (by simp only [go_sem, reduceEqDiff, reduceAdd, reduceSub, reduceMul, reduceLeDiff, reduceLT, Nat.reduceBEq, reduceIte]) ?_
      try simp only [go_sem, reduceEqDiff, reduceAdd, reduceSub, reduceMul, reduceLeDiff, reduceLT, Nat.reduceBEq, reduceIte, (idx_some hx47).1, (idx_some hx47).2, (idx_some hx51).1, (idx_some hx51).2]
      apply obindE h; intro r56 hx57 h
      have hc := nx (r10_minus_ok (h := hx57))
      refine pcallK_intro hc (by simp only [go_sem, reduceEqDiff, reduceAdd, reduceSub, reduceMul, reduceLeDiff, reduceLT, Nat.reduceBEq, reduceIte]) ?_
      try simp only [go_sem, reduceEqDiff, reduceAdd, reduceSub, reduceMul, reduceLeDiff, reduceLT, Nat.reduceBEq, reduceIte, (idx_some hx47).1, (idx_some hx47).2, (idx_some hx51).1, (idx_some hx51).2]
      apply obindE h; intro r58 hx59 h
      have hc := nx (r10_join_ok (h := hx59))
      refine pcallK_intro hc (by simp only [go_sem, reduceEqDiff, reduceAdd, reduceSub, reduceMul, reduceLeDiff, reduceLT, Nat.reduceBEq, reduceIte]) ?_
      try simp only [go_sem, reduceEqDiff, reduceAdd, reduceSub, reduceMul, reduceLeDiff, reduceLT, Nat.reduceBEq, reduceIte, (idx_some hx47).1, (idx_some hx47).2, (idx_some hx51).1, (idx_some hx51).2]
      refine AW.ret ?_
      obtain ⟨_, h, ho⟩ := outM_some h
      rw [ho, Out.fin_out] at hJ2
      have h := h.trans hJ2
      obtain rfl := Option.some.inj h
      refine nz ?_
      exact .same _
    have h := ifF hb45 h
    refine AW.sk ?_
    exact JoinQ.ar () [0, 1] (Option.some.inj h).symm
  rintro ⟨⟩ rfl
  have h := hJ2
  try dsimp only [Out.fin] at h
  refine nz ?_
  refine AW.op mixed ?_
  refine AW.kp [0, 1, 2] [1, 2, 4] ?_
  refine AW.one ?_
  refine AW.op mixed ?_
  refine AW.kp [0, 1, 2] [1, 2, 4, 5] ?_
  refine AW.cutS [0, 1, 2] [] [] [(2, ⟨2, [[.d (.val (.bool false)), .d (slD strV [])]]⟩)] [(1, .ptr 0 6 0 0), (2, .ptr 1 2 0 0), (4, .ptr 2 2 0 0), (5, .d (.val (.int .i64 (0 : Int))))] [some ⟨6, [[.d (.val (.int .i64 p0.op)), .d (.val (.string p0.name)), .d (.val (.bool p0.num.neg)), .d (slD u32V p0.num.num), .d (slD u32V p0.num.den), .d (slD NodeA.enc p0.kids)]]⟩, some ⟨2, [[.d (.val (.bool false)), .d (.val (.slice none 0 0))]]⟩, some ⟨2, [[.d (.val (.bool false)), .d (slD strV [])]]⟩] (by simp only [go_sem, reduceEqDiff, reduceAdd, reduceSub, reduceMul, reduceLeDiff, reduceLT, Nat.reduceBEq, reduceIte, sealL_cons, sealL_nil]) (by simp only [go_sem, reduceEqDiff, reduceAdd, reduceSub, reduceMul, reduceLeDiff, reduceLT, Nat.reduceBEq, reduceIte, sealH_cons, sealH_nil]; exact ⟨⟨.same _, .nil, trivial⟩, trivial⟩) (by simp only [go_sem, reduceEqDiff, reduceAdd, reduceSub, reduceMul, reduceLeDiff, reduceLT, Nat.reduceBEq, reduceIte]) ?_
  refine obindE h fun oJ67 h hJ67 => ?_
  refine AW.join (S := Api_NamesA) (fun e65_0 => [(1, .ptr 0 6 0 0), (2, .ptr 1 2 0 0), (4, .ptr 2 2 0 0)]) (fun e65_0 => [some ⟨6, [[.d (.val (.int .i64 p0.op)), .d (.val (.string p0.name)), .d (.val (.bool p0.num.neg)), .d (slD u32V p0.num.num), .d (slD u32V p0.num.den), .d (slD NodeA.enc p0.kids)]]⟩, some ⟨2, [[.d (.val (.bool false)), .d (.val (.slice none 0 0))]]⟩, some ⟨2, [[.d (.val (.bool e65_0.all)), .d (slD strV e65_0.list)]]⟩]) (fun x => x = oJ67) ?_ ?_
  · refine AW.block ?_
    refine AW.iter (S := Int × Api_NamesA) (fun (i64_0, i64_1) => [(1, .ptr 0 6 0 0), (2, .ptr 1 2 0 0), (4, .ptr 2 2 0 0), (5, .d (.val (.int .i64 i64_0)))]) (fun (i64_0, i64_1) => [some ⟨6, [[.d (.val (.int .i64 p0.op)), .d (.val (.string p0.name)), .d (.val (.bool p0.num.neg)), .d (slD u32V p0.num.num), .d (slD u32V p0.num.den), .d (slD NodeA.enc p0.kids)]]⟩, some ⟨2, [[.d (.val (.bool false)), .d (.val (.slice none 0 0))]]⟩, some ⟨2, [[.d (.val (.bool i64_1.all)), .d (slD strV i64_1.list)]]⟩]) [0, 1, 2] h (by simp only [go_sem, reduceEqDiff, reduceAdd, reduceSub, reduceMul, reduceLeDiff, reduceLT, Nat.reduceBEq, reduceIte]) ?_
    rintro again ⟨i64_0, i64_1⟩ h
    try dsimp only at h
    refine AW.one ?_
    refine AW.op mixed ?_
    refine AW.kp [0, 1, 2] [1, 2, 4, 5, 76] ?_
    refine AW.ts (decide (i64_0 < (p0.kids.length : Int))) (fun hb68 => ?_) (fun hb68 => ?_)
    · have h := ifT hb68 h
      refine AW.sk ?_
      refine AW.kp [0, 1, 2] [1, 2, 4, 5] ?_
      refine AW.one ?_
      refine AW.block ?_
      refine AW.reg mixed (by kernel_rfl) ?_
      apply obindE h; intro x69 hx70 h
      try simp only [go_sem, reduceEqDiff, reduceAdd, reduceSub, reduceMul, reduceLeDiff, reduceLT, Nat.reduceBEq, reduceIte, (idx_some hx70).1, (idx_some hx70).2]
      apply obindE h; intro r71 hx72 h
      have hc := nx (hself43 _ _ hx72)
      refine pcallK_intro hc (by simp only [go_sem, reduceEqDiff, reduceAdd, reduceSub, reduceMul, reduceLeDiff, reduceLT, Nat.reduceBEq, reduceIte]) ?_
      try simp only [go_sem, reduceEqDiff, reduceAdd, reduceSub, reduceMul, reduceLeDiff, reduceLT, Nat.reduceBEq, reduceIte, (idx_some hx70).1, (idx_some hx70).2]
      apply obindE h; intro r73 hx74 h
      have hc := nx (r10_join_ok (h := hx74))
      refine pcallK_intro hc (by simp only [go_sem, reduceEqDiff, reduceAdd, reduceSub, reduceMul, reduceLeDiff, reduceLT, Nat.reduceBEq, reduceIte]) ?_
      try simp only [go_sem, reduceEqDiff, reduceAdd, reduceSub, reduceMul, reduceLeDiff, reduceLT, Nat.reduceBEq, reduceIte, (idx_some hx70).1, (idx_some hx70).2]
      refine AW.cut [0, 1, 2] [(1, .ptr 0 6 0 0), (2, .ptr 1 2 0 0), (4, .ptr 2 2 0 0), (5, .d (.val (.int .i64 i64_0)))] [some ⟨6, [[.d (.val (.int .i64 p0.op)), .d (.val (.string p0.name)), .d (.val (.bool p0.num.neg)), .d (slD u32V p0.num.num), .d (slD u32V p0.num.den), .d (slD NodeA.enc p0.kids)]]⟩, some ⟨2, [[.d (.val (.bool false)), .d (.val (.slice none 0 0))]]⟩, some ⟨2, [[.d (.val (.bool r73.all)), .d (slD strV r73.list)]]⟩] (by simp only [go_sem, reduceEqDiff, reduceAdd, reduceSub, reduceMul, reduceLeDiff, reduceLT, Nat.reduceBEq, reduceIte, (idx_some hx70).1, (idx_some hx70).2]) ?_
      refine AW.rg mixed ?_
      exact NextQ.ar (IntKind.wrap .i64 (i64_0 + (1 : Int)), r73) [0, 1, 2] h
    have h := ifF hb68 h
    refine AW.ex ?_
    exact JoinQ.ar i64_1 [0, 1, 2] (Option.some.inj h)
  rintro e65_0 rfl
  have h := hJ67
  try dsimp only [Out.fin] at h
  refine nz ?_
  refine AW.kp [0, 1, 2] [1, 2, 4] ?_
  refine AW.one ?_
  refine obindE h fun oJ76 h hJ76 => ?_
  refine AW.join (S := Api_NamesA) (fun v75_0 => [(2, .ptr 0 2 0 0), (4, .ptr 1 2 0 0)]) (fun v75_0 => [some ⟨2, [[.d (.val (.bool false)), .d (.val (.slice none 0 0))]]⟩, some ⟨2, [[.d (.val (.bool v75_0.all)), .d (slD strV v75_0.list)]]⟩]) (fun x => x = oJ76) ?_ ?_
  · skip
    refine AW.op mixed ?_
    refine AW.kp [0, 1, 2] [1, 2, 4, 89] ?_
    refine AW.ts (p0.op == (55 : Int)) (fun hb77 => ?_) (fun hb77 => ?_)
    · have h := ifT hb77 h
      refine AW.rg mixed ?_
      apply obindE h; intro r78 hx79 h
      have hc := nx (r10_only_ok (h := hx79))
      refine callD hc ?_
      apply obindE h; intro r80 hx81 h
      have hc := nx (r10_join_ok (h := hx81))
      refine callD hc ?_
      exact JoinQ.ar r80 [1, 2] (Option.some.inj h)
    have h := ifF hb77 h
    refine AW.sk ?_
    exact JoinQ.ar e65_0 [1, 2] (Option.some.inj h)
  rintro v75_0 rfl
  have h := hJ76
  try dsimp only [Out.fin] at h
  refine nz ?_
  refine AW.op mixed ?_
  refine AW.ret ?_
  obtain rfl := Option.some.inj h
  refine nz ?_
  exact .same _
def r10_free (K : Nat) (p0 : NodeA) : Option Api_NamesA := iter K (fun self q => r10_free_body K self q) p0
theorem key_r10_free {K : Nat} (k : Nat) : (∀ (q : NodeA) (r : Api_NamesA), iter k (fun self q => r10_free_body K self q) q = some r → Cn Tryz.prog 43 [aggV q.enc] (aggV r.enc)) := by
  induction k with
  | zero => exact fun q r h => by cases h
  | succ k ih => exact fun q r h => r10_free_step K _ ih q r h
theorem r10_free_ok {K : Nat} {p0 : NodeA} {r : Api_NamesA} (h : r10_free K p0 = some r) : Cn Tryz.prog 43 [aggV p0.enc] (aggV r.enc) := (key_r10_free K) p0 r h
/-! ### isochrone/isochroneref10.FreeOf -/
def r10_FreeOf (K : Nat) (p0 : NodeA) : Option Api_NamesA := (r10_free K p0).bind fun r1 => 
  some r1
set_option maxHeartbeats 4000000 in
theorem r10_FreeOf_ok {K : Nat} {p0 : NodeA} {r : Api_NamesA} (h : r10_FreeOf K p0 = some r) : Cn Tryz.prog 13 [aggV p0.enc] (aggV r.enc) := by
  refine Cn.ofA mixed Tryz.func13 rfl Tryz.call13 Tryz.ntmps13 Tryz.results13 (by simp) (by simp only [go_sem, reduceEqDiff, reduceAdd, reduceSub, reduceMul, reduceLeDiff, reduceLT, Nat.reduceBEq, reduceIte]) fun hfit => ?_
  unfold r10_FreeOf at h
  refine AW.kp [] [0] ?_
  refine AW.op mixed ?_
  refine AW.kp [0, 1] [1, 2] ?_
  refine AW.op mixed ?_
  apply obindE h; intro r1 hx2 h
  have hc := nx (r10_free_ok (h := hx2))
  refine callP hc ?_
  refine AW.ret ?_
  obtain rfl := Option.some.inj h
  refine nz ?_
  exact .same _
/-! ### isochrone/isochroneref10.MustOf -/
def r10_MustOf (K : Nat) (p0 : NodeA) : Option Api_NamesA := (r10_must K p0).bind fun r1 => 
  some r1
set_option maxHeartbeats 4000000 in
theorem r10_MustOf_ok {K : Nat} {p0 : NodeA} {r : Api_NamesA} (h : r10_MustOf K p0 = some r) : Cn Tryz.prog 19 [aggV p0.enc] (aggV r.enc) := by
  refine Cn.ofA mixed Tryz.func19 rfl Tryz.call19 Tryz.ntmps19 Tryz.results19 (by simp) (by simp only [go_sem, reduceEqDiff, reduceAdd, reduceSub, reduceMul, reduceLeDiff, reduceLT, Nat.reduceBEq, reduceIte]) fun hfit => ?_
  unfold r10_MustOf at h
  refine AW.kp [] [0] ?_
  refine AW.op mixed ?_
  refine AW.kp [0, 1] [1, 2] ?_
  refine AW.op mixed ?_
  apply obindE h; intro r1 hx2 h
  have hc := nx (r10_must_ok (h := hx2))
  refine callP hc ?_
  refine AW.ret ?_
  obtain rfl := Option.some.inj h
  refine nz ?_
  exact .same _
/-! ### isochrone/isochroneref10.Same -/
def r10_Same (K : Nat) (p0 : Api_NamesA) (p1 : Api_NamesA) : Option Bool := ((
    ((
      if (!(p0.all == p1.all)) then
        some true
      else
        some ((p0.list.length : Int) != (p1.list.length : Int))) : Option Bool).bind (fun v3_0 => 
    if v3_0 then
      outM (
        some false)
    else
      some (.go ()))) : Option (Out Unit _)).bind (Out.fin fun _ => 
  ((iter (S := Int) (R := Out Unit _) K (fun again i7_0 => 
    if (decide (i7_0 < (p0.list.length : Int))) then
      (idx p0.list i7_0).bind fun x12 => 
      (idx p1.list i7_0).bind fun x14 => 
      if (!(x12.toList == x14.toList)) then
        outM (
          some false)
      else
        again (IntKind.wrap .i64 (i7_0 + (1 : Int)))
    else
      some (.go ())) (0 : Int)) : Option (Out Unit _)).bind (Out.fin fun _ => 
  some true))
set_option maxHeartbeats 4000000 in
theorem r10_Same_ok {K : Nat} {p0 : Api_NamesA} {p1 : Api_NamesA} {r : Bool} (h : r10_Same K p0 p1 = some r) : Cn Tryz.prog 12 [aggV p0.enc, aggV p1.enc] (.d (.val (.bool r))) := by
  refine Cn.ofA mixed Tryz.func12 rfl Tryz.call12 Tryz.ntmps12 Tryz.results12 (by simp) (by simp only [go_sem, reduceEqDiff, reduceAdd, reduceSub, reduceMul, reduceLeDiff, reduceLT, Nat.reduceBEq, reduceIte]) fun hfit => ?_
  unfold r10_Same at h
  refine AW.kp [] [0, 1] ?_
  refine AW.op mixed ?_
  refine AW.kp [0, 1] [2, 3] ?_
  refine AW.one ?_
  refine obindE h fun oJ2 h hJ2 => ?_
  refine AW.join (S := Unit) (fun _ => [(2, .ptr 0 2 0 0), (3, .ptr 1 2 0 0)]) (fun _ => [some ⟨2, [[.d (.val (.bool p0.all)), .d (slD strV p0.list)]]⟩, some ⟨2, [[.d (.val (.bool p1.all)), .d (slD strV p1.list)]]⟩]) (fun x => oJ2 = .go x) ?_ ?_
  · skip
    refine AW.one ?_
    refine obindE h fun oJ4 h hJ4 => ?_
    refine AW.join (S := Bool) (fun v3_0 => [(2, .ptr 0 2 0 0), (3, .ptr 1 2 0 0), (19, .d (.val (.bool v3_0)))]) (fun v3_0 => [some ⟨2, [[.d (.val (.bool p0.all)), .d (slD strV p0.list)]]⟩, some ⟨2, [[.d (.val (.bool p1.all)), .d (slD strV p1.list)]]⟩]) (fun x => x = oJ4) ?_ ?_
    · skip
      refine AW.rg mixed ?_
      refine splitK_intro (fun hb5 => ?_) (fun hb5 => ?_)
      · have h := ifT hb5 h
        try simp only [go_sem, reduceEqDiff, reduceAdd, reduceSub, reduceMul, reduceLeDiff, reduceLT, Nat.reduceBEq, reduceIte, hb5]
        refine JoinQ.mk true [0, 1] (Option.some.inj h) (by simp only [go_sem, reduceEqDiff, reduceAdd, reduceSub, reduceMul, reduceLeDiff, reduceLT, Nat.reduceBEq, reduceIte, hb5])
      have h := ifF hb5 h
      try simp only [go_sem, reduceEqDiff, reduceAdd, reduceSub, reduceMul, reduceLeDiff, reduceLT, Nat.reduceBEq, reduceIte, hb5]
      refine JoinQ.mk ((p0.list.length : Int) != (p1.list.length : Int)) [0, 1] (Option.some.inj h) (by simp only [go_sem, reduceEqDiff, reduceAdd, reduceSub, reduceMul, reduceLeDiff, reduceLT, Nat.reduceBEq, reduceIte, hb5])
    rintro v3_0 rfl
    have h := hJ4
    try dsimp only [Out.fin] at h
    refine nz ?_
    refine AW.ts v3_0 (fun hb6 => ?_) (fun hb6 => ?_)
    · have h := ifT hb6 h
      refine AW.op mixed ?_
      refine AW.ret ?_
      obtain ⟨_, h, ho⟩ := outM_some h
      rw [ho, Out.fin_out] at hJ2
      have h := h.trans hJ2
      obtain rfl := Option.some.inj h
      refine nz ?_
      exact .same _
    have h := ifF hb6 h
    refine AW.sk ?_
    exact JoinQ.ar () [0, 1] (Option.some.inj h).symm
  rintro ⟨⟩ rfl
  have h := hJ2
  try dsimp only [Out.fin] at h
  refine nz ?_
  refine AW.one ?_
  refine AW.op mixed ?_
  refine AW.kp [0, 1] [2, 3, 5] ?_
  refine obindE h fun oJ10 h hJ10 => ?_
  refine AW.join (S := Unit) (fun _ => []) (fun _ => []) (fun x => oJ10 = .go x) ?_ ?_
  · refine AW.block ?_
    refine AW.iter (S := Int) (fun i7_0 => [(2, .ptr 0 2 0 0), (3, .ptr 1 2 0 0), (5, .d (.val (.int .i64 i7_0)))]) (fun i7_0 => [some ⟨2, [[.d (.val (.bool p0.all)), .d (slD strV p0.list)]]⟩, some ⟨2, [[.d (.val (.bool p1.all)), .d (slD strV p1.list)]]⟩]) [0, 1] h (by simp only [go_sem, reduceEqDiff, reduceAdd, reduceSub, reduceMul, reduceLeDiff, reduceLT, Nat.reduceBEq, reduceIte]) ?_
    rintro again i7_0 h
    try dsimp only at h
    refine AW.one ?_
    refine AW.op mixed ?_
    refine AW.kp [0, 1] [2, 3, 5, 24] ?_
    refine AW.ts (decide (i7_0 < (p0.list.length : Int))) (fun hb11 => ?_) (fun hb11 => ?_)
    · have h := ifT hb11 h
      refine AW.sk ?_
      refine AW.kp [0, 1] [2, 3, 5] ?_
      refine AW.one ?_
      refine AW.block ?_
      refine AW.one ?_
      refine AW.reg mixed (by kernel_rfl) ?_
      apply obindE h; intro x12 hx13 h
      apply obindE h; intro x14 hx15 h
      try simp only [go_sem, reduceEqDiff, reduceAdd, reduceSub, reduceMul, reduceLeDiff, reduceLT, Nat.reduceBEq, reduceIte, (idx_some hx13).1, (idx_some hx13).2, (idx_some hx15).1, (idx_some hx15).2]
      refine AW.cut [0, 1] [(2, .ptr 0 2 0 0), (3, .ptr 1 2 0 0), (5, .d (.val (.int .i64 i7_0))), (37, .d (.val (.bool (!(x12.toList == x14.toList)))))] [some ⟨2, [[.d (.val (.bool p0.all)), .d (slD strV p0.list)]]⟩, some ⟨2, [[.d (.val (.bool p1.all)), .d (slD strV p1.list)]]⟩] (by simp only [go_sem, reduceEqDiff, reduceAdd, reduceSub, reduceMul, reduceLeDiff, reduceLT, Nat.reduceBEq, reduceIte, (idx_some hx13).1, (idx_some hx13).2, (idx_some hx15).1, (idx_some hx15).2]) ?_
      refine AW.ts (!(x12.toList == x14.toList)) (fun hb16 => ?_) (fun hb16 => ?_)
      · have h := ifT hb16 h
        refine AW.op mixed ?_
        refine AW.ret ?_
        obtain ⟨_, h, ho⟩ := outM_some h
        rw [ho, Out.fin_out] at hJ10
        have h := h.trans hJ10
        obtain rfl := Option.some.inj h
        refine nz ?_
        exact .same _
      have h := ifF hb16 h
      refine AW.sk ?_
      refine AW.kp [0, 1] [2, 3, 5] ?_
      refine AW.rg mixed ?_
      exact NextQ.ar (IntKind.wrap .i64 (i7_0 + (1 : Int))) [0, 1] h
    have h := ifF hb11 h
    refine AW.ex ?_
    exact JoinQ.ar () [] (Option.some.inj h).symm
  rintro ⟨⟩ rfl
  have h := hJ10
  try dsimp only [Out.fin] at h
  refine nz ?_
  refine AW.kp [] [] ?_
  refine AW.op mixed ?_
  refine AW.ret ?_
  obtain rfl := Option.some.inj h
  refine nz ?_
  exact .same _
/-! ### isochrone/rename.Uniform -/
def rename_Uniform (K : Nat) (p0 : NodeA) (p1 : ByteArray) (p2 : ByteArray) : Option (NodeA × Int) := (rename_check K p0).bind fun r1 => 
  if (r1 != (0 : Int)) then
    some ((NodeA.mk (0 : Int) (⟨#[]⟩ : ByteArray) (RatA.mk false [] []) []), r1)
  else
    ((
      ((
        (tree_Name K p1).bind fun r8 => 
        if (!r8) then
          some true
        else
          (tree_Name K p2).bind fun r11 => 
          some (!r11)) : Option Bool).bind (fun v6_0 => 
      if v6_0 then
        outM (
          some ((NodeA.mk (0 : Int) (⟨#[]⟩ : ByteArray) (RatA.mk false [] []) []), (3 : Int)))
      else
        some (.go ()))) : Option (Out Unit _)).bind (Out.fin fun _ => 
    (rename_renamable K p0).bind fun r14 => 
    if (!r14) then
      some ((NodeA.mk (0 : Int) (⟨#[]⟩ : ByteArray) (RatA.mk false [] []) []), (180 : Int))
    else
      (rename_uniform K p0 p1 p2).bind fun r17 => 
      some (r17, (0 : Int)))
set_option maxHeartbeats 4000000 in
theorem rename_Uniform_ok {K : Nat} {p0 : NodeA} {p1 : ByteArray} {p2 : ByteArray} {r : NodeA × Int} (h : rename_Uniform K p0 p1 p2 = some r) : Cn Tryz.prog 14 [aggV p0.enc, .d (.val (.string p1)), .d (.val (.string p2))] (.tup [aggV r.1.enc, .d (.val (.int .i64 r.2))]) := by
  refine Cn.ofA mixed Tryz.func14 rfl Tryz.call14 Tryz.ntmps14 Tryz.results14 (by simp) (by simp only [go_sem, reduceEqDiff, reduceAdd, reduceSub, reduceMul, reduceLeDiff, reduceLT, Nat.reduceBEq, reduceIte]) fun hfit => ?_
  unfold rename_Uniform at h
  refine AW.kp [] [0, 1, 2] ?_
  refine AW.op mixed ?_
  refine AW.kp [0, 1] [1, 2, 3, 6] ?_
  refine AW.one ?_
  refine AW.op mixed ?_
  apply obindE h; intro r1 hx2 h
  have hc := nx (rename_check_ok (h := hx2))
  refine callP hc ?_
  refine AW.kp [0, 1] [1, 2, 3, 6, 8] ?_
  refine AW.op mixed ?_
  refine AW.kp [0, 1] [1, 2, 3, 6, 8, 12] ?_
  refine AW.ts (r1 != (0 : Int)) (fun hb3 => ?_) (fun hb3 => ?_)
  · have h := ifT hb3 h
    refine AW.op mixed ?_
    refine AW.ret ?_
    obtain rfl := Option.some.inj h
    refine nz ?_
    exact .tupL ⟨.aggL ⟨.same _, .same _, .same _, .nil, .nil, .nil, trivial⟩, .same _, trivial⟩
  have h := ifF hb3 h
  refine AW.sk ?_
  refine AW.kp [0, 1] [1, 2, 3, 6] ?_
  refine AW.one ?_
  refine obindE h fun oJ5 h hJ5 => ?_
  refine AW.join (S := Unit) (fun _ => [(1, .d (.val (.string p1))), (2, .d (.val (.string p2))), (3, .ptr 0 6 0 0), (6, .ptr 1 6 0 0)]) (fun _ => [some ⟨6, [[.d (.val (.int .i64 p0.op)), .d (.val (.string p0.name)), .d (.val (.bool p0.num.neg)), .d (slD u32V p0.num.num), .d (slD u32V p0.num.den), .d (slD NodeA.enc p0.kids)]]⟩, some ⟨6, [[.d (.val (.int .i64 (0 : Int))), .d (.val (.string (⟨#[]⟩ : ByteArray))), .d (.val (.bool false)), .d (.val (.slice none 0 0)), .d (.val (.slice none 0 0)), .d (.val (.slice none 0 0))]]⟩]) (fun x => oJ5 = .go x) ?_ ?_
  · skip
    refine AW.one ?_
    refine obindE h fun oJ7 h hJ7 => ?_
    refine AW.join (S := Bool) (fun v6_0 => [(1, .d (.val (.string p1))), (2, .d (.val (.string p2))), (3, .ptr 0 6 0 0), (6, .ptr 1 6 0 0), (22, .d (.val (.bool v6_0)))]) (fun v6_0 => [some ⟨6, [[.d (.val (.int .i64 p0.op)), .d (.val (.string p0.name)), .d (.val (.bool p0.num.neg)), .d (slD u32V p0.num.num), .d (slD u32V p0.num.den), .d (slD NodeA.enc p0.kids)]]⟩, some ⟨6, [[.d (.val (.int .i64 (0 : Int))), .d (.val (.string (⟨#[]⟩ : ByteArray))), .d (.val (.bool false)), .d (.val (.slice none 0 0)), .d (.val (.slice none 0 0)), .d (.val (.slice none 0 0))]]⟩]) (fun x => x = oJ7) ?_ ?_
    · skip
      refine AW.rg mixed ?_
      apply obindE h; intro r8 hx9 h
      have hc := nx (tree_Name_ok (h := hx9))
      refine callP hc ?_
      refine splitK_intro (fun hb10 => ?_) (fun hb10 => ?_)
      · have h := ifT hb10 h
        try simp only [go_sem, reduceEqDiff, reduceAdd, reduceSub, reduceMul, reduceLeDiff, reduceLT, Nat.reduceBEq, reduceIte, hb10]
        refine JoinQ.mk true [0, 1] (Option.some.inj h) (by simp only [go_sem, reduceEqDiff, reduceAdd, reduceSub, reduceMul, reduceLeDiff, reduceLT, Nat.reduceBEq, reduceIte, hb10])
      have h := ifF hb10 h
      try simp only [go_sem, reduceEqDiff, reduceAdd, reduceSub, reduceMul, reduceLeDiff, reduceLT, Nat.reduceBEq, reduceIte, hb10]
      apply obindE h; intro r11 hx12 h
      have hc := nx (tree_Name_ok (h := hx12))
      refine callK_pure hc (by simp only [go_sem, reduceEqDiff, reduceAdd, reduceSub, reduceMul, reduceLeDiff, reduceLT, Nat.reduceBEq, reduceIte]) ?_
      try simp only [go_sem, reduceEqDiff, reduceAdd, reduceSub, reduceMul, reduceLeDiff, reduceLT, Nat.reduceBEq, reduceIte, hb10]
      refine JoinQ.mk (!r11) [0, 1] (Option.some.inj h) (by simp only [go_sem, reduceEqDiff, reduceAdd, reduceSub, reduceMul, reduceLeDiff, reduceLT, Nat.reduceBEq, reduceIte, hb10])
    rintro v6_0 rfl
    have h := hJ7
    try dsimp only [Out.fin] at h
    refine nz ?_
    refine AW.ts v6_0 (fun hb13 => ?_) (fun hb13 => ?_)
    · have h := ifT hb13 h
      refine AW.op mixed ?_
      refine AW.ret ?_
      obtain ⟨_, h, ho⟩ := outM_some h
      rw [ho, Out.fin_out] at hJ5
      have h := h.trans hJ5
      obtain rfl := Option.some.inj h
      refine nz ?_
      exact .tupL ⟨.aggL ⟨.same _, .same _, .same _, .nil, .nil, .nil, trivial⟩, .same _, trivial⟩
    have h := ifF hb13 h
    refine AW.sk ?_
    exact JoinQ.ar () [0, 1] (Option.some.inj h).symm
  rintro ⟨⟩ rfl
  have h := hJ5
  try dsimp only [Out.fin] at h
  refine nz ?_
  refine AW.one ?_
  refine AW.op mixed ?_
  apply obindE h; intro r14 hx15 h
  have hc := nx (rename_renamable_ok (h := hx15))
  refine callP hc ?_
  refine AW.kp [0, 1] [1, 2, 3, 6, 26] ?_
  refine AW.ts (!r14) (fun hb16 => ?_) (fun hb16 => ?_)
  · have h := ifT hb16 h
    refine AW.op mixed ?_
    refine AW.ret ?_
    obtain rfl := Option.some.inj h
    refine nz ?_
    exact .tupL ⟨.aggL ⟨.same _, .same _, .same _, .nil, .nil, .nil, trivial⟩, .same _, trivial⟩
  have h := ifF hb16 h
  refine AW.sk ?_
  refine AW.kp [0, 1] [1, 2, 3, 6] ?_
  refine AW.op mixed ?_
  apply obindE h; intro r17 hx18 h
  have hc := nx (rename_uniform_ok (h := hx18))
  refine callP hc ?_
  refine AW.ret ?_
  obtain rfl := Option.some.inj h
  refine nz ?_
  exact .same _
/-! ### isochrone/isochronelaw18.RenameSets -/
def law18_RenameSets (K : Nat) (p0 : NodeA) (p1 : ByteArray) (p2 : ByteArray) : Option Bool := (law18_awake K ).bind fun r1 => 
  if (!r1) then
    some false
  else
    (r08_Size K p0).bind fun r4 => 
    if (decide ((1000 : Int) < r4)) then
      some true
    else
      (rename_Uniform K p0 p1 p2).bind fun r7 => 
      if (r7.2 != (0 : Int)) then
        some true
      else
        (r10_FreeOf K r7.1).bind fun r10 => 
        (r10_FreeOf K p0).bind fun r12 => 
        (law18_swapped K r12 p1 p2).bind fun r14 => 
        (r10_Same K r10 r14).bind fun r16 => 
        if r16 then
          (r10_BoundOf K r7.1).bind fun r19 => 
          (r10_BoundOf K p0).bind fun r21 => 
          (law18_swapped K r21 p1 p2).bind fun r23 => 
          (r10_Same K r19 r23).bind fun r25 => 
          if r25 then
            (r08_Sort K p0.op).bind fun r28 => 
            if (r28 != (3 : Int)) then
              some true
            else
              (r10_MustOf K r7.1).bind fun r31 => 
              (r10_MustOf K p0).bind fun r33 => 
              (law18_swapped K r33 p1 p2).bind fun r35 => 
              (r10_Same K r31 r35).bind fun r37 => 
              some r37
          else
            some false
        else
          some false
set_option maxHeartbeats 4000000 in
theorem law18_RenameSets_ok {K : Nat} {p0 : NodeA} {p1 : ByteArray} {p2 : ByteArray} {r : Bool} (h : law18_RenameSets K p0 p1 p2 = some r) : Cn Tryz.prog 5 [aggV p0.enc, .d (.val (.string p1)), .d (.val (.string p2))] (.d (.val (.bool r))) := by
  refine Cn.ofA mixed Tryz.func5 rfl Tryz.call5 Tryz.ntmps5 Tryz.results5 (by simp) (by simp only [go_sem, reduceEqDiff, reduceAdd, reduceSub, reduceMul, reduceLeDiff, reduceLT, Nat.reduceBEq, reduceIte]) fun hfit => ?_
  unfold law18_RenameSets at h
  refine AW.kp [] [0, 1, 2] ?_
  refine AW.op mixed ?_
  refine AW.kp [0] [1, 2, 3] ?_
  refine AW.one ?_
  refine AW.op mixed ?_
  apply obindE h; intro r1 hx2 h
  have hc := nx (law18_awake_ok (h := hx2))
  refine callP hc ?_
  refine AW.kp [0] [1, 2, 3, 10] ?_
  refine AW.ts (!r1) (fun hb3 => ?_) (fun hb3 => ?_)
  · have h := ifT hb3 h
    refine AW.op mixed ?_
    refine AW.ret ?_
    obtain rfl := Option.some.inj h
    refine nz ?_
    exact .same _
  have h := ifF hb3 h
  refine AW.sk ?_
  refine AW.kp [0] [1, 2, 3] ?_
  refine AW.one ?_
  refine AW.op mixed ?_
  apply obindE h; intro r4 hx5 h
  have hc := nx (r08_Size_ok (h := hx5))
  refine callP hc ?_
  refine AW.kp [0] [1, 2, 3, 13] ?_
  refine AW.ts (decide ((1000 : Int) < r4)) (fun hb6 => ?_) (fun hb6 => ?_)
  · have h := ifT hb6 h
    refine AW.op mixed ?_
    refine AW.ret ?_
    obtain rfl := Option.some.inj h
    refine nz ?_
    exact .same _
  have h := ifF hb6 h
  refine AW.sk ?_
  refine AW.kp [0] [1, 2, 3] ?_
  refine AW.op mixed ?_
  apply obindE h; intro r7 hx8 h
  have hc := nx (rename_Uniform_ok (h := hx8))
  refine callP hc ?_
  refine AW.kp [0, 8] [1, 2, 3, 7, 8] ?_
  refine AW.one ?_
  refine AW.op mixed ?_
  refine AW.kp [0, 1] [1, 2, 3, 7, 22] ?_
  refine AW.ts (r7.2 != (0 : Int)) (fun hb9 => ?_) (fun hb9 => ?_)
  · have h := ifT hb9 h
    refine AW.op mixed ?_
    refine AW.ret ?_
    obtain rfl := Option.some.inj h
    refine nz ?_
    exact .same _
  have h := ifF hb9 h
  refine AW.sk ?_
  refine AW.kp [0, 1] [1, 2, 3, 7] ?_
  refine AW.op mixed ?_
  apply obindE h; intro r10 hx11 h
  have hc := nx (r10_FreeOf_ok (h := hx11))
  refine callD hc ?_
  apply obindE h; intro r12 hx13 h
  have hc := nx (r10_FreeOf_ok (h := hx13))
  refine callD hc ?_
  apply obindE h; intro r14 hx15 h
  have hc := nx (law18_swapped_ok (h := hx15))
  refine callD hc ?_
  apply obindE h; intro r16 hx17 h
  have hc := nx (r10_Same_ok (h := hx17))
  refine callD hc ?_
  refine splitK_intro (fun hb18 => ?_) (fun hb18 => ?_)
  · have h := ifT hb18 h
    try simp only [go_sem, reduceEqDiff, reduceAdd, reduceSub, reduceMul, reduceLeDiff, reduceLT, Nat.reduceBEq, reduceIte, hb18]
    apply obindE h; intro r19 hx20 h
    have hc := nx (r10_BoundOf_ok (h := hx20))
    refine pcallK_intro hc (by simp only [go_sem, reduceEqDiff, reduceAdd, reduceSub, reduceMul, reduceLeDiff, reduceLT, Nat.reduceBEq, reduceIte]) ?_
    try simp only [go_sem, reduceEqDiff, reduceAdd, reduceSub, reduceMul, reduceLeDiff, reduceLT, Nat.reduceBEq, reduceIte, hb18]
    apply obindE h; intro r21 hx22 h
    have hc := nx (r10_BoundOf_ok (h := hx22))
    refine pcallK_intro hc (by simp only [go_sem, reduceEqDiff, reduceAdd, reduceSub, reduceMul, reduceLeDiff, reduceLT, Nat.reduceBEq, reduceIte]) ?_
    try simp only [go_sem, reduceEqDiff, reduceAdd, reduceSub, reduceMul, reduceLeDiff, reduceLT, Nat.reduceBEq, reduceIte, hb18]
    apply obindE h; intro r23 hx24 h
    have hc := nx (law18_swapped_ok (h := hx24))
    refine pcallK_intro hc (by simp only [go_sem, reduceEqDiff, reduceAdd, reduceSub, reduceMul, reduceLeDiff, reduceLT, Nat.reduceBEq, reduceIte]) ?_
    try simp only [go_sem, reduceEqDiff, reduceAdd, reduceSub, reduceMul, reduceLeDiff, reduceLT, Nat.reduceBEq, reduceIte, hb18]
    apply obindE h; intro r25 hx26 h
    have hc := nx (r10_Same_ok (h := hx26))
    refine pcallK_intro hc (by simp only [go_sem, reduceEqDiff, reduceAdd, reduceSub, reduceMul, reduceLeDiff, reduceLT, Nat.reduceBEq, reduceIte]) ?_
    try simp only [go_sem, reduceEqDiff, reduceAdd, reduceSub, reduceMul, reduceLeDiff, reduceLT, Nat.reduceBEq, reduceIte, hb18]
    refine splitK_intro (fun hb27 => ?_) (fun hb27 => ?_)
    · have h := ifT hb27 h
      try simp only [go_sem, reduceEqDiff, reduceAdd, reduceSub, reduceMul, reduceLeDiff, reduceLT, Nat.reduceBEq, reduceIte, hb18, hb27]
      apply obindE h; intro r28 hx29 h
      have hc := nx (r08_Sort_ok (h := hx29))
      refine pcallK_intro hc (by simp only [go_sem, reduceEqDiff, reduceAdd, reduceSub, reduceMul, reduceLeDiff, reduceLT, Nat.reduceBEq, reduceIte]) ?_
      try simp only [go_sem, reduceEqDiff, reduceAdd, reduceSub, reduceMul, reduceLeDiff, reduceLT, Nat.reduceBEq, reduceIte, hb18, hb27]
      refine splitK_intro (fun hb30 => ?_) (fun hb30 => ?_)
      · have h := ifT hb30 h
        try simp only [go_sem, reduceEqDiff, reduceAdd, reduceSub, reduceMul, reduceLeDiff, reduceLT, Nat.reduceBEq, reduceIte, hb18, hb27, hb30]
        refine AW.ret ?_
        obtain rfl := Option.some.inj h
        refine nz ?_
        exact .same _
      have h := ifF hb30 h
      try simp only [go_sem, reduceEqDiff, reduceAdd, reduceSub, reduceMul, reduceLeDiff, reduceLT, Nat.reduceBEq, reduceIte, hb18, hb27, hb30]
      apply obindE h; intro r31 hx32 h
      have hc := nx (r10_MustOf_ok (h := hx32))
      refine pcallK_intro hc (by simp only [go_sem, reduceEqDiff, reduceAdd, reduceSub, reduceMul, reduceLeDiff, reduceLT, Nat.reduceBEq, reduceIte]) ?_
      try simp only [go_sem, reduceEqDiff, reduceAdd, reduceSub, reduceMul, reduceLeDiff, reduceLT, Nat.reduceBEq, reduceIte, hb18, hb27, hb30]
      apply obindE h; intro r33 hx34 h
      have hc := nx (r10_MustOf_ok (h := hx34))
      refine pcallK_intro hc (by simp only [go_sem, reduceEqDiff, reduceAdd, reduceSub, reduceMul, reduceLeDiff, reduceLT, Nat.reduceBEq, reduceIte]) ?_
      try simp only [go_sem, reduceEqDiff, reduceAdd, reduceSub, reduceMul, reduceLeDiff, reduceLT, Nat.reduceBEq, reduceIte, hb18, hb27, hb30]
      apply obindE h; intro r35 hx36 h
      have hc := nx (law18_swapped_ok (h := hx36))
      refine pcallK_intro hc (by simp only [go_sem, reduceEqDiff, reduceAdd, reduceSub, reduceMul, reduceLeDiff, reduceLT, Nat.reduceBEq, reduceIte]) ?_
      try simp only [go_sem, reduceEqDiff, reduceAdd, reduceSub, reduceMul, reduceLeDiff, reduceLT, Nat.reduceBEq, reduceIte, hb18, hb27, hb30]
      apply obindE h; intro r37 hx38 h
      have hc := nx (r10_Same_ok (h := hx38))
      refine pcallK_intro hc (by simp only [go_sem, reduceEqDiff, reduceAdd, reduceSub, reduceMul, reduceLeDiff, reduceLT, Nat.reduceBEq, reduceIte]) ?_
      try simp only [go_sem, reduceEqDiff, reduceAdd, reduceSub, reduceMul, reduceLeDiff, reduceLT, Nat.reduceBEq, reduceIte, hb18, hb27, hb30]
      refine AW.ret ?_
      obtain rfl := Option.some.inj h
      refine nz ?_
      exact .same _
    have h := ifF hb27 h
    try simp only [go_sem, reduceEqDiff, reduceAdd, reduceSub, reduceMul, reduceLeDiff, reduceLT, Nat.reduceBEq, reduceIte, hb18, hb27]
    refine AW.ret ?_
    obtain rfl := Option.some.inj h
    refine nz ?_
    exact .same _
  have h := ifF hb18 h
  try simp only [go_sem, reduceEqDiff, reduceAdd, reduceSub, reduceMul, reduceLeDiff, reduceLT, Nat.reduceBEq, reduceIte, hb18]
  refine AW.ret ?_
  obtain rfl := Option.some.inj h
  refine nz ?_
  exact .same _
/-! ### isochrone/isochroneref18.variable -/
/-! ### isochrone/isochroneref18.Exchange -/
/-! ### isochrone/isochroneref08.Levels -/
/-! ### isochrone/isochroneref08.Natural -/
/-! ### isochrone/isochroneref08.differential -/
/-! ### isochrone/isochroneref08.kids -/
def r08_kids (K : Nat) (p0 : Int) : Option ByteArray := ((
    if (p0 == (4 : Int)) then
      some (p0 == (4 : Int))
    else
      if (p0 == (12 : Int)) then
        some (p0 == (12 : Int))
      else
        if (p0 == (50 : Int)) then
          some (p0 == (50 : Int))
        else
          if (p0 == (51 : Int)) then
            some (p0 == (51 : Int))
          else
            some (p0 == (55 : Int))) : Option Bool).bind (fun v1_0 => 
  if v1_0 then
    some (⟨#[49]⟩ : ByteArray)
  else
    ((
      if (p0 == (5 : Int)) then
        some (p0 == (5 : Int))
      else
        if (p0 == (6 : Int)) then
          some (p0 == (6 : Int))
        else
          if (p0 == (7 : Int)) then
            some (p0 == (7 : Int))
          else
            if (p0 == (8 : Int)) then
              some (p0 == (8 : Int))
            else
              if (p0 == (9 : Int)) then
                some (p0 == (9 : Int))
              else
                if (p0 == (22 : Int)) then
                  some (p0 == (22 : Int))
                else
                  if (p0 == (23 : Int)) then
                    some (p0 == (23 : Int))
                  else
                    if (p0 == (24 : Int)) then
                      some (p0 == (24 : Int))
                    else
                      if (p0 == (25 : Int)) then
                        some (p0 == (25 : Int))
                      else
                        if (p0 == (26 : Int)) then
                          some (p0 == (26 : Int))
                        else
                          some (p0 == (27 : Int))) : Option Bool).bind (fun v8_0 => 
    if v8_0 then
      some (⟨#[49, 49]⟩ : ByteArray)
    else
      ((
        if (p0 == (28 : Int)) then
          some (p0 == (28 : Int))
        else
          if (p0 == (33 : Int)) then
            some (p0 == (33 : Int))
          else
            if (p0 == (34 : Int)) then
              some (p0 == (34 : Int))
            else
              if (p0 == (39 : Int)) then
                some (p0 == (39 : Int))
              else
                some (p0 == (53 : Int))) : Option Bool).bind (fun v21_0 => 
      if v21_0 then
        some (⟨#[50]⟩ : ByteArray)
      else
        ((
          if (p0 == (29 : Int)) then
            some (p0 == (29 : Int))
          else
            if (p0 == (30 : Int)) then
              some (p0 == (30 : Int))
            else
              if (p0 == (31 : Int)) then
                some (p0 == (31 : Int))
              else
                some (p0 == (32 : Int))) : Option Bool).bind (fun v28_0 => 
        if v28_0 then
          some (⟨#[50, 50]⟩ : ByteArray)
        else
          ((
            if (p0 == (35 : Int)) then
              some (p0 == (35 : Int))
            else
              some (p0 == (36 : Int))) : Option Bool).bind (fun v34_0 => 
          if v34_0 then
            some (⟨#[51, 50]⟩ : ByteArray)
          else
            ((
              if (p0 == (57 : Int)) then
                some (p0 == (57 : Int))
              else
                some (p0 == (58 : Int))) : Option Bool).bind (fun v38_0 => 
            if v38_0 then
              some (⟨#[51, 51]⟩ : ByteArray)
            else
              ((
                if (p0 == (59 : Int)) then
                  some (p0 == (59 : Int))
                else
                  some (p0 == (60 : Int))) : Option Bool).bind (fun v42_0 => 
              if v42_0 then
                some (⟨#[51]⟩ : ByteArray)
              else
                some (⟨#[]⟩ : ByteArray))))))))
/-! ### isochrone/isochroneref08.named -/
def r08_named (K : Nat) (p0 : Int) : Option Bool := ((
    if (p0 == (2 : Int)) then
      some (p0 == (2 : Int))
    else
      if (p0 == (3 : Int)) then
        some (p0 == (3 : Int))
      else
        if (p0 == (10 : Int)) then
          some (p0 == (10 : Int))
        else
          if (p0 == (11 : Int)) then
            some (p0 == (11 : Int))
          else
            if (p0 == (33 : Int)) then
              some (p0 == (33 : Int))
            else
              if (p0 == (34 : Int)) then
                some (p0 == (34 : Int))
              else
                if (p0 == (37 : Int)) then
                  some (p0 == (37 : Int))
                else
                  if (p0 == (38 : Int)) then
                    some (p0 == (38 : Int))
                  else
                    if (p0 == (50 : Int)) then
                      some (p0 == (50 : Int))
                    else
                      if (p0 == (51 : Int)) then
                        some (p0 == (51 : Int))
                      else
                        if (p0 == (52 : Int)) then
                          some (p0 == (52 : Int))
                        else
                          if (p0 == (55 : Int)) then
                            some (p0 == (55 : Int))
                          else
                            if (p0 == (56 : Int)) then
                              some (p0 == (56 : Int))
                            else
                              if (p0 == (61 : Int)) then
                                some (p0 == (61 : Int))
                              else
                                some (p0 == (62 : Int))) : Option Bool).bind (fun v1_0 => 
  if v1_0 then
    some true
  else
    some false)
/-! ### isochrone/isochroneref08.natural -/
/-! ### isochrone/isochroneref08.primed -/
end Go.Proofs.YtngmfimpaembnaaGreatDoor
