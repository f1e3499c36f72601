/- The library's decimal text of a number, and words joined, as data. No condition. -/
import Derived.Test.YtmfmdoppjcaedaaGreatDoorFwD
import Derived.Lib.ItoaNum
import Derived.Lib.Join
namespace Go.Fw
def itoaB (n : Int) : ByteArray := ⟨(Lib.itoa n).toArray⟩
def g_formatInt (n base : Int) : Option ByteArray := bif ieq base 10 then some (itoaB n) else none
def joinL (xs : List ByteArray) (sep : ByteArray) : List UInt8 := Lib.join (xs.map (·.data.toList)) sep.data.toList
def joinB (xs : List ByteArray) (sep : ByteArray) : ByteArray := ⟨(joinL xs sep).toArray⟩
def g_joinStr (xs : List ByteArray) (sep : ByteArray) : Option ByteArray := bif Nat.ble 1 xs.length && Nat.ble xs.length 4294967296 then bif Nat.ble (joinL xs sep).length 4294967296 then some (joinB xs sep) else none else none
end Go.Fw
