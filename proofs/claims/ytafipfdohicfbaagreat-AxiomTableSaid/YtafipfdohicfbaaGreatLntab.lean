/- Part of the proof of a law: contracts of the functions that the law reaches, or plain laws of them, out of the abstract layer (the texts YtafipfdohicfbaaGreatIso..). No condition. -/
import Derived.Test.YtafipfdohicfbaaGreatW
import Derived.Test.YtafipfdohicfbaaGreatPa
import Derived.Test.YtafipfdohicfbaaGreatIsoV
import Derived.KernelRfl
namespace Go.Proofs.YtafipfdohicfbaaGreat
open Go Go.Iso Go.Proofs
set_option maxRecDepth 100000
/-! ### The table: texts and trees -/
def nm0 : ByteArray := ⟨#[97, 115, 115, 105, 103, 110]⟩
def tx0 : ByteArray := ⟨#[91, 120, 32, 58, 61, 32, 102, 40, 41, 93, 112, 40, 120, 41, 32, 60, 45, 62, 32, 112, 40, 102, 40, 41, 41]⟩
def nd0 : NodeA := .mk 32 ⟨#[]⟩ (.mk false [] []) [.mk 35 ⟨#[]⟩ (.mk false [] []) [.mk 50 ⟨#[120]⟩ (.mk false [] []) [.mk 10 ⟨#[102]⟩ (.mk false [] []) []], .mk 37 ⟨#[112]⟩ (.mk false [] []) [.mk 2 ⟨#[120]⟩ (.mk false [] []) []]], .mk 37 ⟨#[112]⟩ (.mk false [] []) [.mk 10 ⟨#[102]⟩ (.mk false [] []) []]]
def nm1 : ByteArray := ⟨#[112, 114, 105, 109, 101]⟩
def tx1 : ByteArray := ⟨#[91, 120, 39, 32, 58, 61, 32, 102, 40, 41, 93, 112, 40, 120, 39, 41, 32, 60, 45, 62, 32, 112, 40, 102, 40, 41, 41]⟩
def nd1 : NodeA := .mk 32 ⟨#[]⟩ (.mk false [] []) [.mk 35 ⟨#[]⟩ (.mk false [] []) [.mk 51 ⟨#[120]⟩ (.mk false [] []) [.mk 10 ⟨#[102]⟩ (.mk false [] []) []], .mk 37 ⟨#[112]⟩ (.mk false [] []) [.mk 3 ⟨#[120]⟩ (.mk false [] []) []]], .mk 37 ⟨#[112]⟩ (.mk false [] []) [.mk 10 ⟨#[102]⟩ (.mk false [] []) []]]
def nm2 : ByteArray := ⟨#[99, 104, 111, 111, 115, 101]⟩
def tx2 : ByteArray := ⟨#[91, 120, 32, 58, 61, 32, 42, 93, 112, 40, 120, 41, 32, 60, 45, 62, 32, 102, 111, 114, 97, 108, 108, 32, 120, 46, 32, 112, 40, 120, 41]⟩
def nd2 : NodeA := .mk 32 ⟨#[]⟩ (.mk false [] []) [.mk 35 ⟨#[]⟩ (.mk false [] []) [.mk 52 ⟨#[120]⟩ (.mk false [] []) [], .mk 37 ⟨#[112]⟩ (.mk false [] []) [.mk 2 ⟨#[120]⟩ (.mk false [] []) []]], .mk 33 ⟨#[120]⟩ (.mk false [] []) [.mk 37 ⟨#[112]⟩ (.mk false [] []) [.mk 2 ⟨#[120]⟩ (.mk false [] []) []]]]
def nm3 : ByteArray := ⟨#[116, 101, 115, 116]⟩
def tx3 : ByteArray := ⟨#[91, 63, 81, 123, 125, 93, 80, 123, 125, 32, 60, 45, 62, 32, 40, 81, 123, 125, 32, 45, 62, 32, 80, 123, 125, 41]⟩
def nd3 : NodeA := .mk 32 ⟨#[]⟩ (.mk false [] []) [.mk 35 ⟨#[]⟩ (.mk false [] []) [.mk 53 ⟨#[]⟩ (.mk false [] []) [.mk 38 ⟨#[81]⟩ (.mk false [] []) []], .mk 38 ⟨#[80]⟩ (.mk false [] []) []], .mk 31 ⟨#[]⟩ (.mk false [] []) [.mk 38 ⟨#[81]⟩ (.mk false [] []) [], .mk 38 ⟨#[80]⟩ (.mk false [] []) []]]
def nm4 : ByteArray := ⟨#[99, 104, 111, 105, 99, 101]⟩
def tx4 : ByteArray := ⟨#[91, 123, 97, 33, 32, 43, 43, 32, 98, 33, 125, 93, 80, 123, 125, 32, 60, 45, 62, 32, 40, 91, 97, 33, 93, 80, 123, 125, 32, 38, 32, 91, 98, 33, 93, 80, 123, 125, 41]⟩
def nd4 : NodeA := .mk 32 ⟨#[]⟩ (.mk false [] []) [.mk 35 ⟨#[]⟩ (.mk false [] []) [.mk 58 ⟨#[]⟩ (.mk false [] []) [.mk 62 ⟨#[97]⟩ (.mk false [] []) [], .mk 62 ⟨#[98]⟩ (.mk false [] []) []], .mk 38 ⟨#[80]⟩ (.mk false [] []) []], .mk 29 ⟨#[]⟩ (.mk false [] []) [.mk 35 ⟨#[]⟩ (.mk false [] []) [.mk 62 ⟨#[97]⟩ (.mk false [] []) [], .mk 38 ⟨#[80]⟩ (.mk false [] []) []], .mk 35 ⟨#[]⟩ (.mk false [] []) [.mk 62 ⟨#[98]⟩ (.mk false [] []) [], .mk 38 ⟨#[80]⟩ (.mk false [] []) []]]]
def nm5 : ByteArray := ⟨#[99, 111, 109, 112, 111, 115, 101]⟩
def tx5 : ByteArray := ⟨#[91, 123, 97, 33, 32, 59, 32, 98, 33, 125, 93, 80, 123, 125, 32, 60, 45, 62, 32, 91, 97, 33, 93, 91, 98, 33, 93, 80, 123, 125]⟩
def nd5 : NodeA := .mk 32 ⟨#[]⟩ (.mk false [] []) [.mk 35 ⟨#[]⟩ (.mk false [] []) [.mk 57 ⟨#[]⟩ (.mk false [] []) [.mk 62 ⟨#[97]⟩ (.mk false [] []) [], .mk 62 ⟨#[98]⟩ (.mk false [] []) []], .mk 38 ⟨#[80]⟩ (.mk false [] []) []], .mk 35 ⟨#[]⟩ (.mk false [] []) [.mk 62 ⟨#[97]⟩ (.mk false [] []) [], .mk 35 ⟨#[]⟩ (.mk false [] []) [.mk 62 ⟨#[98]⟩ (.mk false [] []) [], .mk 38 ⟨#[80]⟩ (.mk false [] []) []]]]
def nm6 : ByteArray := ⟨#[105, 116, 101, 114, 97, 116, 101]⟩
def tx6 : ByteArray := ⟨#[91, 123, 97, 33, 125, 42, 93, 80, 123, 125, 32, 60, 45, 62, 32, 40, 80, 123, 125, 32, 38, 32, 91, 97, 33, 93, 91, 123, 97, 33, 125, 42, 93, 80, 123, 125, 41]⟩
def nd6 : NodeA := .mk 32 ⟨#[]⟩ (.mk false [] []) [.mk 35 ⟨#[]⟩ (.mk false [] []) [.mk 59 ⟨#[]⟩ (.mk false [] []) [.mk 62 ⟨#[97]⟩ (.mk false [] []) []], .mk 38 ⟨#[80]⟩ (.mk false [] []) []], .mk 29 ⟨#[]⟩ (.mk false [] []) [.mk 38 ⟨#[80]⟩ (.mk false [] []) [], .mk 35 ⟨#[]⟩ (.mk false [] []) [.mk 62 ⟨#[97]⟩ (.mk false [] []) [], .mk 35 ⟨#[]⟩ (.mk false [] []) [.mk 59 ⟨#[]⟩ (.mk false [] []) [.mk 62 ⟨#[97]⟩ (.mk false [] []) []], .mk 38 ⟨#[80]⟩ (.mk false [] []) []]]]]
def nm7 : ByteArray := ⟨#[100, 117, 97, 108]⟩
def tx7 : ByteArray := ⟨#[91, 123, 97, 33, 125, 64, 93, 80, 123, 125, 32, 60, 45, 62, 32, 33, 40, 91, 97, 33, 93, 33, 80, 123, 125, 41]⟩
def nd7 : NodeA := .mk 32 ⟨#[]⟩ (.mk false [] []) [.mk 35 ⟨#[]⟩ (.mk false [] []) [.mk 60 ⟨#[]⟩ (.mk false [] []) [.mk 62 ⟨#[97]⟩ (.mk false [] []) []], .mk 38 ⟨#[80]⟩ (.mk false [] []) []], .mk 28 ⟨#[]⟩ (.mk false [] []) [.mk 35 ⟨#[]⟩ (.mk false [] []) [.mk 62 ⟨#[97]⟩ (.mk false [] []) [], .mk 28 ⟨#[]⟩ (.mk false [] []) [.mk 38 ⟨#[80]⟩ (.mk false [] []) []]]]]
def nm8 : ByteArray := ⟨#[100, 105, 97, 109, 111, 110, 100]⟩
def tx8 : ByteArray := ⟨#[60, 124, 97, 33, 124, 62, 80, 123, 125, 32, 60, 45, 62, 32, 33, 40, 91, 97, 33, 93, 33, 80, 123, 125, 41]⟩
def nd8 : NodeA := .mk 32 ⟨#[]⟩ (.mk false [] []) [.mk 36 ⟨#[]⟩ (.mk false [] []) [.mk 62 ⟨#[97]⟩ (.mk false [] []) [], .mk 38 ⟨#[80]⟩ (.mk false [] []) []], .mk 28 ⟨#[]⟩ (.mk false [] []) [.mk 35 ⟨#[]⟩ (.mk false [] []) [.mk 62 ⟨#[97]⟩ (.mk false [] []) [], .mk 28 ⟨#[]⟩ (.mk false [] []) [.mk 38 ⟨#[80]⟩ (.mk false [] []) []]]]]
def nm9 : ByteArray := ⟨#[75]⟩
def tx9 : ByteArray := ⟨#[91, 97, 93, 40, 80, 123, 125, 32, 45, 62, 32, 81, 123, 125, 41, 32, 45, 62, 32, 40, 91, 97, 93, 80, 123, 125, 32, 45, 62, 32, 91, 97, 93, 81, 123, 125, 41]⟩
def nd9 : NodeA := .mk 31 ⟨#[]⟩ (.mk false [] []) [.mk 35 ⟨#[]⟩ (.mk false [] []) [.mk 61 ⟨#[97]⟩ (.mk false [] []) [], .mk 31 ⟨#[]⟩ (.mk false [] []) [.mk 38 ⟨#[80]⟩ (.mk false [] []) [], .mk 38 ⟨#[81]⟩ (.mk false [] []) []]], .mk 31 ⟨#[]⟩ (.mk false [] []) [.mk 35 ⟨#[]⟩ (.mk false [] []) [.mk 61 ⟨#[97]⟩ (.mk false [] []) [], .mk 38 ⟨#[80]⟩ (.mk false [] []) []], .mk 35 ⟨#[]⟩ (.mk false [] []) [.mk 61 ⟨#[97]⟩ (.mk false [] []) [], .mk 38 ⟨#[81]⟩ (.mk false [] []) []]]]
def nm10 : ByteArray := ⟨#[86]⟩
def tx10 : ByteArray := ⟨#[112, 40, 41, 32, 45, 62, 32, 91, 97, 93, 112, 40, 41]⟩
def nd10 : NodeA := .mk 31 ⟨#[]⟩ (.mk false [] []) [.mk 37 ⟨#[112]⟩ (.mk false [] []) [], .mk 35 ⟨#[]⟩ (.mk false [] []) [.mk 61 ⟨#[97]⟩ (.mk false [] []) [], .mk 37 ⟨#[112]⟩ (.mk false [] []) []]]
def nm11 : ByteArray := ⟨#[73]⟩
def tx11 : ByteArray := ⟨#[91, 123, 97, 125, 42, 93, 40, 80, 123, 125, 32, 45, 62, 32, 91, 97, 93, 80, 123, 125, 41, 32, 45, 62, 32, 40, 80, 123, 125, 32, 45, 62, 32, 91, 123, 97, 125, 42, 93, 80, 123, 125, 41]⟩
def nd11 : NodeA := .mk 31 ⟨#[]⟩ (.mk false [] []) [.mk 35 ⟨#[]⟩ (.mk false [] []) [.mk 59 ⟨#[]⟩ (.mk false [] []) [.mk 61 ⟨#[97]⟩ (.mk false [] []) []], .mk 31 ⟨#[]⟩ (.mk false [] []) [.mk 38 ⟨#[80]⟩ (.mk false [] []) [], .mk 35 ⟨#[]⟩ (.mk false [] []) [.mk 61 ⟨#[97]⟩ (.mk false [] []) [], .mk 38 ⟨#[80]⟩ (.mk false [] []) []]]], .mk 31 ⟨#[]⟩ (.mk false [] []) [.mk 38 ⟨#[80]⟩ (.mk false [] []) [], .mk 35 ⟨#[]⟩ (.mk false [] []) [.mk 59 ⟨#[]⟩ (.mk false [] []) [.mk 61 ⟨#[97]⟩ (.mk false [] []) []], .mk 38 ⟨#[80]⟩ (.mk false [] []) []]]]
def nm12 : ByteArray := ⟨#[68, 87]⟩
def tx12 : ByteArray := ⟨#[91, 123, 99, 46, 46, 32, 38, 32, 81, 123, 125, 125, 93, 81, 123, 125]⟩
def nd12 : NodeA := .mk 35 ⟨#[]⟩ (.mk false [] []) [.mk 54 ⟨#[]⟩ (.mk false [] []) [.mk 56 ⟨#[99]⟩ (.mk false [] []) [], .mk 38 ⟨#[81]⟩ (.mk false [] []) []], .mk 38 ⟨#[81]⟩ (.mk false [] []) []]
def nm13 : ByteArray := ⟨#[68, 67]⟩
def tx13 : ByteArray := ⟨#[91, 123, 99, 46, 46, 32, 38, 32, 81, 123, 125, 125, 93, 82, 123, 125, 32, 45, 62, 32, 40, 91, 123, 99, 46, 46, 32, 38, 32, 81, 123, 125, 125, 93, 80, 123, 125, 32, 60, 45, 62, 32, 91, 123, 99, 46, 46, 32, 38, 32, 40, 81, 123, 125, 32, 38, 32, 82, 123, 125, 41, 125, 93, 80, 123, 125, 41]⟩
def nd13 : NodeA := .mk 31 ⟨#[]⟩ (.mk false [] []) [.mk 35 ⟨#[]⟩ (.mk false [] []) [.mk 54 ⟨#[]⟩ (.mk false [] []) [.mk 56 ⟨#[99]⟩ (.mk false [] []) [], .mk 38 ⟨#[81]⟩ (.mk false [] []) []], .mk 38 ⟨#[82]⟩ (.mk false [] []) []], .mk 32 ⟨#[]⟩ (.mk false [] []) [.mk 35 ⟨#[]⟩ (.mk false [] []) [.mk 54 ⟨#[]⟩ (.mk false [] []) [.mk 56 ⟨#[99]⟩ (.mk false [] []) [], .mk 38 ⟨#[81]⟩ (.mk false [] []) []], .mk 38 ⟨#[80]⟩ (.mk false [] []) []], .mk 35 ⟨#[]⟩ (.mk false [] []) [.mk 54 ⟨#[]⟩ (.mk false [] []) [.mk 56 ⟨#[99]⟩ (.mk false [] []) [], .mk 29 ⟨#[]⟩ (.mk false [] []) [.mk 38 ⟨#[81]⟩ (.mk false [] []) [], .mk 38 ⟨#[82]⟩ (.mk false [] []) []]], .mk 38 ⟨#[80]⟩ (.mk false [] []) []]]]
def nm14 : ByteArray := ⟨#[68, 69]⟩
def tx14 : ByteArray := ⟨#[91, 123, 120, 39, 32, 61, 32, 102, 123, 125, 44, 32, 99, 46, 46, 32, 38, 32, 81, 123, 125, 125, 93, 80, 123, 125, 32, 60, 45, 62, 32, 91, 123, 120, 39, 32, 61, 32, 102, 123, 125, 44, 32, 99, 46, 46, 32, 38, 32, 81, 123, 125, 125, 93, 91, 120, 39, 32, 58, 61, 32, 102, 123, 125, 93, 80, 123, 125]⟩
def nd14 : NodeA := .mk 32 ⟨#[]⟩ (.mk false [] []) [.mk 35 ⟨#[]⟩ (.mk false [] []) [.mk 54 ⟨#[]⟩ (.mk false [] []) [.mk 55 ⟨#[120]⟩ (.mk false [] []) [.mk 11 ⟨#[102]⟩ (.mk false [] []) []], .mk 56 ⟨#[99]⟩ (.mk false [] []) [], .mk 38 ⟨#[81]⟩ (.mk false [] []) []], .mk 38 ⟨#[80]⟩ (.mk false [] []) []], .mk 35 ⟨#[]⟩ (.mk false [] []) [.mk 54 ⟨#[]⟩ (.mk false [] []) [.mk 55 ⟨#[120]⟩ (.mk false [] []) [.mk 11 ⟨#[102]⟩ (.mk false [] []) []], .mk 56 ⟨#[99]⟩ (.mk false [] []) [], .mk 38 ⟨#[81]⟩ (.mk false [] []) []], .mk 35 ⟨#[]⟩ (.mk false [] []) [.mk 51 ⟨#[120]⟩ (.mk false [] []) [.mk 11 ⟨#[102]⟩ (.mk false [] []) []], .mk 38 ⟨#[80]⟩ (.mk false [] []) []]]]
def nm15 : ByteArray := ⟨#[97, 108, 108, 105]⟩
def tx15 : ByteArray := ⟨#[40, 102, 111, 114, 97, 108, 108, 32, 120, 46, 32, 112, 40, 120, 41, 41, 32, 45, 62, 32, 112, 40, 102, 40, 41, 41]⟩
def nd15 : NodeA := .mk 31 ⟨#[]⟩ (.mk false [] []) [.mk 33 ⟨#[120]⟩ (.mk false [] []) [.mk 37 ⟨#[112]⟩ (.mk false [] []) [.mk 2 ⟨#[120]⟩ (.mk false [] []) []]], .mk 37 ⟨#[112]⟩ (.mk false [] []) [.mk 10 ⟨#[102]⟩ (.mk false [] []) []]]
def nm16 : ByteArray := ⟨#[97, 108, 108, 86]⟩
def tx16 : ByteArray := ⟨#[112, 40, 41, 32, 45, 62, 32, 102, 111, 114, 97, 108, 108, 32, 120, 46, 32, 112, 40, 41]⟩
def nd16 : NodeA := .mk 31 ⟨#[]⟩ (.mk false [] []) [.mk 37 ⟨#[112]⟩ (.mk false [] []) [], .mk 33 ⟨#[120]⟩ (.mk false [] []) [.mk 37 ⟨#[112]⟩ (.mk false [] []) []]]
def nm17 : ByteArray := ⟨#[97, 108, 108, 75]⟩
def tx17 : ByteArray := ⟨#[40, 102, 111, 114, 97, 108, 108, 32, 120, 46, 32, 40, 80, 123, 125, 32, 45, 62, 32, 81, 123, 125, 41, 41, 32, 45, 62, 32, 40, 40, 102, 111, 114, 97, 108, 108, 32, 120, 46, 32, 80, 123, 125, 41, 32, 45, 62, 32, 40, 102, 111, 114, 97, 108, 108, 32, 120, 46, 32, 81, 123, 125, 41, 41]⟩
def nd17 : NodeA := .mk 31 ⟨#[]⟩ (.mk false [] []) [.mk 33 ⟨#[120]⟩ (.mk false [] []) [.mk 31 ⟨#[]⟩ (.mk false [] []) [.mk 38 ⟨#[80]⟩ (.mk false [] []) [], .mk 38 ⟨#[81]⟩ (.mk false [] []) []]], .mk 31 ⟨#[]⟩ (.mk false [] []) [.mk 33 ⟨#[120]⟩ (.mk false [] []) [.mk 38 ⟨#[80]⟩ (.mk false [] []) []], .mk 33 ⟨#[120]⟩ (.mk false [] []) [.mk 38 ⟨#[81]⟩ (.mk false [] []) []]]]
def nm18 : ByteArray := ⟨#[101, 120, 105, 115, 116, 115]⟩
def tx18 : ByteArray := ⟨#[40, 101, 120, 105, 115, 116, 115, 32, 120, 46, 32, 80, 123, 125, 41, 32, 60, 45, 62, 32, 33, 40, 102, 111, 114, 97, 108, 108, 32, 120, 46, 32, 33, 80, 123, 125, 41]⟩
def nd18 : NodeA := .mk 32 ⟨#[]⟩ (.mk false [] []) [.mk 34 ⟨#[120]⟩ (.mk false [] []) [.mk 38 ⟨#[80]⟩ (.mk false [] []) []], .mk 28 ⟨#[]⟩ (.mk false [] []) [.mk 33 ⟨#[120]⟩ (.mk false [] []) [.mk 28 ⟨#[]⟩ (.mk false [] []) [.mk 38 ⟨#[80]⟩ (.mk false [] []) []]]]]
def nm19 : ByteArray := ⟨#[114, 101, 102, 108]⟩
def tx19 : ByteArray := ⟨#[102, 123, 125, 32, 61, 32, 102, 123, 125]⟩
def nd19 : NodeA := .mk 22 ⟨#[]⟩ (.mk false [] []) [.mk 11 ⟨#[102]⟩ (.mk false [] []) [], .mk 11 ⟨#[102]⟩ (.mk false [] []) []]
def nm20 : ByteArray := ⟨#[120, 39]⟩
def tx20 : ByteArray := ⟨#[40, 120, 41, 39, 32, 61, 32, 120, 39]⟩
def nd20 : NodeA := .mk 22 ⟨#[]⟩ (.mk false [] []) [.mk 12 ⟨#[]⟩ (.mk false [] []) [.mk 2 ⟨#[120]⟩ (.mk false [] []) []], .mk 3 ⟨#[120]⟩ (.mk false [] []) []]
def parseTab : List (ByteArray × NodeA) := [(tx0, nd0), (tx1, nd1), (tx2, nd2), (tx3, nd3), (tx4, nd4), (tx5, nd5), (tx6, nd6), (tx7, nd7), (tx8, nd8), (tx9, nd9), (tx10, nd10), (tx11, nd11), (tx12, nd12), (tx13, nd13), (tx14, nd14), (tx15, nd15), (tx16, nd16), (tx17, nd17), (tx18, nd18), (tx19, nd19), (tx20, nd20)]
end Go.Proofs.YtafipfdohicfbaaGreat
namespace Go.Proofs.YtafipfdohicfbaaGreat
open Go Go.Iso Go.Proofs
set_option linter.unusedVariables false
noncomputable section
/-! ### What the runs take as reckoned -/
def tokR : Rule Tryz.prog where
 f := 142
 g := fun args => match args with
  | [.d (.val (.string s)), .d (.val (.int .i64 z))] => (text_token 300 s z).map fun r => .d (.val (.string r))
  | _ => none
 ok := fun args v h => by
  split at h
  ·obtain ⟨r, h1, h2⟩ := omap h; subst h2; exact text_token_ok h1
  ·cases h
def blankR : Rule Tryz.prog where
 f := 61
 g := fun args => match args with
  | [.d (.val (.string s)), .d (.val (.int .i64 z))] => (text_blank 300 s z).map fun r => .d (.val (.int .i64 r))
  | _ => none
 ok := fun args v h => by
  split at h
  ·obtain ⟨r, h1, h2⟩ := omap h; subst h2; exact text_blank_ok h1
  ·cases h
def nextR : Rule Tryz.prog where
 f := 42
 g := fun args => match args with
  | [.d (.val (.string s)), .d (.val (.int .i64 z))] => (r09_next 300 s z).map fun r => aggV r.enc
  | _ => none
 ok := fun args v h => by
  split at h
  ·obtain ⟨r, h1, h2⟩ := omap h; subst h2; exact r09_next_ok h1
  ·cases h
def orcP : CallF := rulesF [tokR, blankR]
def orcR : CallF := rulesF [nextR]
theorem orcP_ok : CallOk Tryz.prog orcP := rulesF_ok _
theorem orcR_ok : CallOk Tryz.prog orcR := rulesF_ok _
def argsP (s : ByteArray) : List V := [.d (.val (.string s)), .d (.val (.int .i64 2))]
def encF : Nat → NodeA → List D
 | 0, _ => []
 | k + 1, n => match n with
  | .mk op name num kids => [.val (.int .i64 op), .val (.string name), .val (.bool num.neg), slD u32V num.num, slD u32V num.den, .sl (kids.map (encF k))]
def fitF : Nat → NodeA → Bool
 | 0, _ => false
 | k + 1, n => match n with
  | .mk _ _ _ kids => kids.all (fitF k)
theorem encF_eq : ∀ (k : Nat) (n : NodeA), fitF k n = true → encF k n = n.enc
 | 0, _, h => by cases h
 | k + 1, .mk op name num kids, h => by
  have h : kids.all (fitF k) = true := h
  rw [List.all_eq_true] at h
  rw [NodeA.enc_mk]
  show [D.val (.int .i64 op), .val (.string name), .val (.bool num.neg), slD u32V num.num, slD u32V num.den, .sl (kids.map (encF k))] = _
  rw [show kids.map (encF k) = kids.map NodeA.enc from List.map_congr_left fun x hx => encF_eq k x (h x hx)]
def resD (ds : List D) : V := .tup [aggV ds, .d (.val (.int .i64 0)), .d (.val (.int .i64 0))]
def runB (orc : CallF) (f : FuncId) (s : ByteArray) (n : NodeA) : Bool := fitF 60 n && chkTop 100 (evTop Tryz.prog orc 100000 f (argsP s)) (resD (encF 60 n))
theorem runB_ok {orc : CallF} {f : FuncId} {s : ByteArray} {n : NodeA} (ho : CallOk Tryz.prog orc) (h : runB orc f s n = true) : Cn Tryz.prog f (argsP s) (resD n.enc) := by
 unfold runB at h
 rw [Bool.and_eq_true] at h
 rw [← encF_eq 60 n h.1]
 exact Cn.ofChk mixed ho h.2
end
end Go.Proofs.YtafipfdohicfbaaGreat
