/- Part of the proof of a law: contracts of the functions that the law reaches, or plain laws of them, out of the abstract layer (the texts YtemjeommnpocnaaGreatIso..). No condition. -/
import Derived.Test.YtemjeommnpocnaaGreatPa
import Derived.Test.YtemjeommnpocnaaGreatIsoU
import Derived.KernelRfl
namespace Go.Proofs.YtemjeommnpocnaaGreat
open Go Go.Iso Go.Proofs
set_option linter.unusedVariables false
noncomputable section
/-! ### What the runs take as reckoned -/
def tokR : Rule Tryz.prog where
 f := 116
 g := fun args => match args with
  | [.d (.val (.string s)), .d (.val (.int .i64 z))] => (text_token 300 s z).map fun r => .d (.val (.string r))
  | _ => none
 ok := fun args v h => by
  split at h
  ·obtain ⟨r, h1, h2⟩ := omap h; subst h2; exact text_token_ok h1
  ·cases h
def blankR : Rule Tryz.prog where
 f := 37
 g := fun args => match args with
  | [.d (.val (.string s)), .d (.val (.int .i64 z))] => (text_blank 300 s z).map fun r => .d (.val (.int .i64 r))
  | _ => none
 ok := fun args v h => by
  split at h
  ·obtain ⟨r, h1, h2⟩ := omap h; subst h2; exact text_blank_ok h1
  ·cases h
def orcP : CallF := rulesF [tokR, blankR]
theorem orcP_ok : CallOk Tryz.prog orcP := rulesF_ok _
def argsP (s : ByteArray) : List V := [.d (.val (.string s)), .d (.val (.int .i64 2))]
def encF : Nat → NodeA → List D
 | 0, _ => []
 | k + 1, n => match n with
  | .mk op name num kids => [.val (.int .i64 op), .val (.string name), .val (.bool num.neg), slD u32V num.num, slD u32V num.den, .sl (kids.map (encF k))]
def fitF : Nat → NodeA → Bool
 | 0, _ => false
 | k + 1, n => match n with
  | .mk _ _ _ kids => kids.all (fitF k)
theorem encF_eq : ∀ (k : Nat) (n : NodeA), fitF k n = true → encF k n = n.enc
 | 0, _, h => by cases h
 | k + 1, .mk op name num kids, h => by
  have h : kids.all (fitF k) = true := h
  rw [List.all_eq_true] at h
  rw [NodeA.enc_mk]
  show [D.val (.int .i64 op), .val (.string name), .val (.bool num.neg), slD u32V num.num, slD u32V num.den, .sl (kids.map (encF k))] = _
  rw [show kids.map (encF k) = kids.map NodeA.enc from List.map_congr_left fun x hx => encF_eq k x (h x hx)]
def resD (ds : List D) : V := .tup [aggV ds, .d (.val (.int .i64 0)), .d (.val (.int .i64 0))]
def runB (orc : CallF) (f : FuncId) (s : ByteArray) (n : NodeA) : Bool := fitF 60 n && chkTop 100 (evTop Tryz.prog orc 100000 f (argsP s)) (resD (encF 60 n))
theorem runB_ok {orc : CallF} {f : FuncId} {s : ByteArray} {n : NodeA} (ho : CallOk Tryz.prog orc) (h : runB orc f s n = true) : Cn Tryz.prog f (argsP s) (resD n.enc) := by
 unfold runB at h
 rw [Bool.and_eq_true] at h
 rw [← encF_eq 60 n h.1]
 exact Cn.ofChk mixed ho h.2
end
set_option maxRecDepth 100000
def tx0 : ByteArray := ⟨#[91, 120, 32, 58, 61, 32, 49, 32, 59, 32, 63, 120, 32, 62, 32, 121, 93, 120, 32, 62, 61, 32, 49]⟩
def nd0 : NodeA := .mk 35 ⟨#[]⟩ (.mk false [] []) [(.mk 57 ⟨#[]⟩ (.mk false [] []) [(.mk 50 ⟨#[120]⟩ (.mk false [] []) [(.mk 1 ⟨#[]⟩ (.mk false [1] [1]) [])]), (.mk 53 ⟨#[]⟩ (.mk false [] []) [(.mk 26 ⟨#[]⟩ (.mk false [] []) [(.mk 2 ⟨#[120]⟩ (.mk false [] []) []), (.mk 2 ⟨#[121]⟩ (.mk false [] []) [])])])]), (.mk 27 ⟨#[]⟩ (.mk false [] []) [(.mk 2 ⟨#[120]⟩ (.mk false [] []) []), (.mk 1 ⟨#[]⟩ (.mk false [1] [1]) [])])]
theorem runP0 : runB orcP 10 tx0 nd0 = true := by kernel_rfl
end Go.Proofs.YtemjeommnpocnaaGreat
