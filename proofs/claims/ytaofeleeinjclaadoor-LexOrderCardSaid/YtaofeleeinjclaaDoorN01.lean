/-
  Names, by the document: what is kept, kinds, lists that rise. Conditions: each law's own.
-/
import Derived.Test.YtaofeleeinjclaaDoorPR
namespace Go.PE
open Go Go.RowKit Go.Proofs
set_option linter.unusedVariables false
set_option linter.unusedSimpArgs false
set_option maxRecDepth 100000
section
variable {ot : TypeId} {oz : EP}

def wordsA : List ByteArray := [⟨#[108, 101, 116]⟩, ⟨#[105, 110]⟩, ⟨#[105, 102]⟩, ⟨#[116, 104, 101, 110]⟩, ⟨#[101, 108, 115, 101]⟩, ⟨#[102, 110]⟩, ⟨#[99, 97, 108, 108]⟩, ⟨#[100, 101, 102]⟩, ⟨#[116, 114, 117, 101]⟩, ⟨#[102, 97, 108, 115, 101]⟩]
def wordsB : List ByteArray := [⟨#[73, 110, 116]⟩, ⟨#[66, 111, 111, 108]⟩, ⟨#[83, 116, 114, 105, 110, 103]⟩, ⟨#[84, 111, 112]⟩]
def keptS (s : ByteArray) : Int := if wordsA.any (strEq · s) then 3 else if wordsB.any (strEq · s) then 4 else 0

def lowB (c : UInt8) : Bool := decide (97 ≤ (c.toNat : Int)) && decide ((c.toNat : Int) ≤ 122)
def upB (c : UInt8) : Bool := decide (65 ≤ (c.toNat : Int)) && decide ((c.toNat : Int) ≤ 90)
def digB (c : UInt8) : Bool := decide (48 ≤ (c.toNat : Int)) && decide ((c.toNat : Int) ≤ 57)
/-- May the byte stand within a name of that kind? -/
def innerB (k : Int) (c : UInt8) : Bool := digB c || lowB c || (upB c && !(k == 1))
def firstK (c : UInt8) : Int := if upB c then 2 else if lowB c then 1 else 0
def kindL : List UInt8 → Int
  | [] => 0
  | c :: r => if r.length ≤ 7 && r.all (innerB (firstK c)) then firstK c else 0
def kindS (s : ByteArray) : Int := if keptS s != 0 then keptS s else kindL s.data.toList
def fineS (s : ByteArray) : Bool := kindS s == 1
def varS (s : ByteArray) : Bool := kindS s == 2
/-- Names that rise, behind another one. -/
def risF : Option ByteArray → List ByteArray → Bool
  | _, [] => true
  | none, s :: r => fineS s && risF (some s) r
  | some q, s :: r => fineS s && (strLt q s && risF (some s) r)
def risingS (l : List ByteArray) : Bool := risF none l
end
end Go.PE
