/-
  Shorter words for this seat's code; the stepping set unfolds them. No conditions.
-/
import Derived.Test.YteifnopejdiikaaDoorPE21
import Derived.Attr
namespace Go.PE
open Go
def qI (d:Nat) (o:EOp):EI:=⟨some d,o,none,Q0⟩
def qJ (d:Nat) (o:EOp) (g:Nat) (b:Bool):EI:=⟨some d,o,some (g,b),Q0⟩
def qM (d a:Nat):EI:=⟨some d,.mv (.tmp a),none,Q0⟩
def qA (d k a:Nat):EI:=⟨some d,.fA k (.tmp a),none,Q0⟩
def qL (d a:Nat):EI:=⟨some d,.ld none (.tmp a),none,Q0⟩
def qD (d n a:Nat):EI:=⟨some d,.ld (some n) (.tmp a),none,Q0⟩
def qF (f:Nat):EOpd:= .con (.fn f [] [])
def qN (n:Int):EOpd:= .con (.int .i64 n)
def qt (a:Nat):EOpd:= .tmp a
def qz0:List PV:=[(.str ⟨#[]⟩),(.int .i64 0),(.int .i64 0)]
attribute[go_sem] qI qJ qM qA qL qD qF qN qt qz0
end Go.PE
