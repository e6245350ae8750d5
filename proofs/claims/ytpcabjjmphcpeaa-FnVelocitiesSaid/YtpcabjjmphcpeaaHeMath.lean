/- Heights: plain. -/
import Derived.Test.YtpcabjjmphcpeaaTxt
import Derived.Test.YtpcabjjmphcpeaaOwn
import Derived.Test.YtpcabjjmphcpeaaWi
namespace Go.Proofs.Ytpcabjjmphcpeaa
def isH (h : Int) : Bool := wi h (-2000) 130000
def hT (h : Int) : ByteArray := if h ≥ 10000 ∧ h % 100 = 0 then ⟨#[70, 76]⟩ ++ txtS (h / 100) else txtS h ++ ⟨#[32, 102, 116]⟩
def hTS (h : Int) : ByteArray := if isH h = true then hT h else ⟨#[]⟩
end Go.Proofs.Ytpcabjjmphcpeaa
