/- Part of a proof over the seat Ythneebbmodkjiaa: module D14. Its claim's last module says what is proved. -/
import Derived.Test.YthneebbmodkjiaaD13
namespace Go.Proofs.Ythneebbmodkjiaa
open Go.Proofs

/-! ### DiskPieces -/
def pcFrom (k : Nat) : Nat := k * 5 % 70 % 64
def pcBit (k i : Nat) : Int := IntKind.i64.wrap (((BitVec.ofInt 64 ((k : Int).fdiv (2 ^ i)) &&& BitVec.ofInt 64 1).toNat : Nat) : Int)
def pcPicks (k : Nat) : List Int := [pcBit k 0, pcBit k 1, pcBit k 2].set (k % 3) (2 + ((k % 9 : Nat) : Int))
def pcD1 : Dk := ((newD []).write 3 0 (List.replicate 192 0)).1
def pcD2 : Dk := (pcD1.sync 3).1
def pcD3 (k : Nat) : Dk := (pcD2.write 3 (pcFrom k) (List.replicate 128 1)).1
def pcOut (k : Nat) : List UInt8 := (keepAll (pcD3 k).fs (pcPicks k)).getD 3 []
def pcKept (k i : Nat) : Bool := (decide (pcFrom k ≤ i ∧ i < pcFrom k + 128) && decide ((pcPicks k).getD (i / 64) 0 = 0)) ||
  (decide (pcFrom k ≤ i ∧ i < pcFrom k + 128) && decide (2 ≤ (pcPicks k).getD (i / 64) 0) && decide ((i : Int) - max (pcFrom k : Int) ((i : Int) - ((i % 64 : Nat) : Int)) < (pcPicks k).getD (i / 64) 0 - 2))
def pcOk (k : Nat) : Bool := ((pcD2.write 3 (pcFrom k) (List.replicate 128 1)).2 == 0) && (pcOut k).length == 192 && (List.range 192).all (fun i => ((pcOut k).getD i 0 == 1) == pcKept k i)
theorem pcOk_all : (List.range 40).all pcOk = true := by decide +kernel
theorem pcW1 : ((newD []).write 3 0 (List.replicate 192 0)).2 = 0 := by decide +kernel
theorem pcW2 : (pcD1.sync 3).2 = 0 := by decide +kernel
end Go.Proofs.Ythneebbmodkjiaa
