/-
  Contracts of package cursor: put, Put1, Put2, Put4.
-/
import Derived.Test.YtijjfdmklbncbaaDoorBytes
namespace Go.Proofs.YtijjfdmklbncbaaDoor
open Go.RowKit

/-- The n bytes of a number, the highest first. -/
def enc : Nat → Nat → List UInt8
  | 0, _ => []
  | n + 1, x => enc n (x / 256) ++ [UInt8.ofNat (x % 256)]
theorem enc_len (n x : Nat) : (enc n x).length = n := by
  induction n generalizing x with
  | zero => rfl
  | succ n ih => simp [enc, ih]

theorem enc_one (x : Nat) : enc 1 x = [UInt8.ofNat (x % 256)] := rfl
theorem enc_two (x : Nat) : enc 2 x = [UInt8.ofNat (x / 256 % 256), UInt8.ofNat (x % 256)] := rfl
theorem enc_four (x : Nat) : enc 4 x = [UInt8.ofNat (x / 256 / 256 / 256 % 256), UInt8.ofNat (x / 256 / 256 % 256), UInt8.ofNat (x / 256 % 256), UInt8.ofNat (x % 256)] := rfl
theorem cell_byte (y : Int) (x : Nat) (h : y = ((x % 256 : Nat) : Int)) : Value.int .u8 y = .int .u8 (UInt8.ofNat (x % 256)).toNat := by
  rw [h]; congr 1; simp

end Go.Proofs.YtijjfdmklbncbaaDoor
