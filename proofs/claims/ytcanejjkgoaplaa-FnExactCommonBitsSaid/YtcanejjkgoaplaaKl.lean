/- What is proved here: math/bits.Len8 comes to how many bits a byte takes, for every byte. No condition. Written by this session. -/
import Derived.Test.YtcanejjkgoaplaaKy
import Derived.Shelf.Small.Bits
namespace Go.Proofs.Ytcanejjkgoaplaa.Ky
open Go.RowKit Go.Shelf
set_option linter.unusedVariables false
set_option linter.unusedSimpArgs false
def rho : Ren := ⟨fun _ => 66, fun n => if n = 3 then 3 else if n = 5 then 5 else 9, fun n => n⟩
theorem layLen8 : Lays.n126 Try.prog rho where
  mixed := by kernel_rfl
  f126 := Try.func66.trans (by kernel_rfl)
  t3 := Try.underlying3
  a3 := fun _ => by kernel_rfl
  z3 := fun _ => by kernel_rfl
  v3 := fun _ => by kernel_rfl
  t5 := Try.underlying5
  a5 := fun _ => by kernel_rfl
  z5 := fun _ => by kernel_rfl
  v5 := fun _ => by kernel_rfl
  t9 := Try.underlying9
  a9 := fun _ => by kernel_rfl
  z9 := fun _ => by kernel_rfl
  v9 := fun _ => by kernel_rfl
theorem len8Calls (x : Int) (h0 : 0 ≤ x) (h1 : x ≤ 255) (w : World) : Calls Try.prog 66 #[.int .u8 x] w fun e w' => e = .returned (.int .i64 (Go.Lib.bitLen x.toNat)) ∧ w' = w :=
  Any.bits_Len8 layLen8 x w h0 h1
end Go.Proofs.Ytcanejjkgoaplaa.Ky
