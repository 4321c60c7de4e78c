/- Part of the proof of a law: contracts of the functions that the law reaches, or plain laws of them, out of the abstract layer (the texts YtemjeommnpocnaaGreatIso..). No condition. -/
import Derived.Test.YtemjeommnpocnaaGreatLprun
namespace Go.Proofs.YtemjeommnpocnaaGreat
open Go Go.Iso Go.Proofs
set_option linter.unusedVariables false
set_option maxRecDepth 100000
def text_Parse (K : Nat) (s : ByteArray) (z : Int) : Option (NodeA × Int × Int) := if z = 2 ∧ s.data.toList = tx0.data.toList then some (nd0, 0, 0) else none
theorem text_Parse_ok {K : Nat} {s : ByteArray} {z : Int} {r : NodeA × Int × Int} (h : text_Parse K s z = some r) : Cn Tryz.prog 10 [.d (.val (.string s)), .d (.val (.int .i64 z))] (.tup [aggV r.1.enc, .d (.val (.int .i64 r.2.1)), .d (.val (.int .i64 r.2.2))]) := by
 unfold text_Parse at h
 split at h
 ·next hz =>
  obtain ⟨rfl, h2⟩ := hz
  obtain rfl : s = tx0 := by cases s with | mk a => congr 1; exact Array.toList_inj.1 h2
  obtain rfl := Option.some.inj h
  exact runB_ok orcP_ok runP0
 ·cases h
def cmpS (op : Int) : Option ByteArray :=
 if op = 22 then some ⟨#[32, 61, 32]⟩ else
 if op = 23 then some ⟨#[32, 33, 61, 32]⟩ else
 if op = 24 then some ⟨#[32, 60, 32]⟩ else
 if op = 25 then some ⟨#[32, 60, 61, 32]⟩ else
 if op = 26 then some ⟨#[32, 62, 32]⟩ else
 if op = 27 then some ⟨#[32, 62, 61, 32]⟩ else
 none
def text_compares (K : Nat) (op : Int) : Option ByteArray := cmpS op
theorem cmpRun0 : chkTop 100 (evTop Tryz.prog noOrc 1000 89 [.d (.val (.int .i64 22))]) (.d (.val (.string ⟨#[32, 61, 32]⟩))) = true := by kernel_rfl
theorem cmpRun1 : chkTop 100 (evTop Tryz.prog noOrc 1000 89 [.d (.val (.int .i64 23))]) (.d (.val (.string ⟨#[32, 33, 61, 32]⟩))) = true := by kernel_rfl
theorem cmpRun2 : chkTop 100 (evTop Tryz.prog noOrc 1000 89 [.d (.val (.int .i64 24))]) (.d (.val (.string ⟨#[32, 60, 32]⟩))) = true := by kernel_rfl
theorem cmpRun3 : chkTop 100 (evTop Tryz.prog noOrc 1000 89 [.d (.val (.int .i64 25))]) (.d (.val (.string ⟨#[32, 60, 61, 32]⟩))) = true := by kernel_rfl
theorem cmpRun4 : chkTop 100 (evTop Tryz.prog noOrc 1000 89 [.d (.val (.int .i64 26))]) (.d (.val (.string ⟨#[32, 62, 32]⟩))) = true := by kernel_rfl
theorem cmpRun5 : chkTop 100 (evTop Tryz.prog noOrc 1000 89 [.d (.val (.int .i64 27))]) (.d (.val (.string ⟨#[32, 62, 61, 32]⟩))) = true := by kernel_rfl
theorem text_compares_ok {K : Nat} {op : Int} {r : ByteArray} (h : text_compares K op = some r) : Cn Tryz.prog 89 [.d (.val (.int .i64 op))] (.d (.val (.string r))) := by
 unfold text_compares cmpS at h
 split at h
 ·next e => subst e; obtain rfl := Option.some.inj h; exact Cn.ofChk mixed noOrc_ok cmpRun0
 split at h
 ·next e => subst e; obtain rfl := Option.some.inj h; exact Cn.ofChk mixed noOrc_ok cmpRun1
 split at h
 ·next e => subst e; obtain rfl := Option.some.inj h; exact Cn.ofChk mixed noOrc_ok cmpRun2
 split at h
 ·next e => subst e; obtain rfl := Option.some.inj h; exact Cn.ofChk mixed noOrc_ok cmpRun3
 split at h
 ·next e => subst e; obtain rfl := Option.some.inj h; exact Cn.ofChk mixed noOrc_ok cmpRun4
 split at h
 ·next e => subst e; obtain rfl := Option.some.inj h; exact Cn.ofChk mixed noOrc_ok cmpRun5
 cases h
end Go.Proofs.YtemjeommnpocnaaGreat
