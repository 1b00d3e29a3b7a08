/- Contracts: the laws' helpers on lists of tokens. -/
import Derived.Test.YteielmihlfakgaaGreatDoorProg
import Derived.Test.YteielmihlfakgaaGreatDoorVB
import Derived.Test.YteielmihlfakgaaGreatDoorTokW
namespace Go.Proofs.YteielmihlfakgaaGreatDoor
open Go Go.Proofs Go.RowKit
set_option linter.unusedVariables false
set_option linter.unusedSimpArgs false
set_option maxRecDepth 100000
structure EToken where (kind : Int) (text : ByteArray)
  deriving DecidableEq
def encToken (x : EToken) : List Value := [.int .i64 x.kind, .string x.text]
theorem encToken_len (x : EToken) : (encToken x).length = 2 := rfl
def valToken (x : EToken) : Value := .agg #[.int .i64 x.kind, .string x.text]
theorem infoToken : (Tryz.prog.info? 132).map (fun i => (i.zero, i.size, i.bytes)) = some (some (Value.agg #[Value.int .i64 0, Value.string ⟨#[]⟩]), 2, 24) := by kernel_rfl
theorem strEqToken (s t : ByteArray) : (s.toList = t.toList) ↔ (s = t) := ⟨fun h => by rw [ByteArray.toList_eq, ByteArray.toList_eq] at h; exact ByteArray.ext (Array.toList_inj.1 h), fun h => by rw [h]⟩
def okToken (x : EToken) : Prop := x.text.size ≤ 9223372036854775807
def fitToken (x : EToken) : Prop := x.text.size ≤ 1048576













end Go.Proofs.YteielmihlfakgaaGreatDoor
