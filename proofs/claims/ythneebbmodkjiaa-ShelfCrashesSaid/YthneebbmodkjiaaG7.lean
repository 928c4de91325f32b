/- Part of a proof over the seat Ythneebbmodkjiaa: module G7. Its claim's last module says what is proved. -/
import Derived.Test.YthneebbmodkjiaaE23
namespace Go.Proofs.Ythneebbmodkjiaa
open Go.Proofs

/-! ### A shelf whose disk fails: all of it counted out -/
def fst' (n : Nat) : Nat → Sh × Dk × List Tx
  | 0 => (⟨1, 128, [], false⟩, newD (List.replicate 8 []), [])
  | i + 1 =>
    let q := fst' n i
    let d := if i = 1 then q.2.1.hurt n else q.2.1
    let r := q.1.put d [UInt8.ofNat (97 + i)]
    (r.1, r.2.1, if r.2.2.2 = 0 then q.2.2 ++ [[UInt8.ofNat (97 + i)]] else q.2.2)
def fdk (n i : Nat) : Dk := if i = 1 then (fst' n i).2.1.hurt n else (fst' n i).2.1
def fput (n i : Nat) : Sh × Dk × Int × Int := (fst' n i).1.put (fdk n i) [UInt8.ofNat (97 + i)]
/-- What is asked in a round. -/
def fokI (n i : Nat) : Bool := let r := fput n i
  decide (r.2.2.2 = 0) || (decide (r.2.2.2 = 14) && r.1.failed && decide (r.1.texts = (fst' n i).2.2))
/-- What is asked at the end. -/
def fokE (n : Nat) : Bool := let q := fst' n 4
  (q.1.failed != decide (q.2.2.length = 4)) &&
  (may (keepAll q.2.1.fs [])) && (match openD (newD (keepAll q.2.1.fs [])) 1 128 with
    | (_, some s, e) => decide (e = 0) && bagL q.2.2 s.texts 1 && decide (s.es.length ≤ 1000)
    | _ => false)
theorem fok_all : ∀ n < 13, 1 ≤ n → (∀ i < 4, fokI n i = true) ∧ fokE n = true := by decide +kernel
end Go.Proofs.Ythneebbmodkjiaa
