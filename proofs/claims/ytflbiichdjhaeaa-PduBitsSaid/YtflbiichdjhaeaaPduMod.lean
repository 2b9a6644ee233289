/- Remainders, made not negative. No program in sight. -/
namespace Go.Proofs.Ytflbiichdjhaeaa
theorem tmod128 (a : Int) : -128 < a.tmod 128 ∧ a.tmod 128 < 128 ∧ (a.tmod 128 + 128) % 128 = a % 128 := by
  have h := Int.tmod_add_mul_tdiv a 128
  have h1 := Int.tmod_lt_of_pos a (show (0 : Int) < 128 by decide)
  have h2 := Int.lt_tmod_of_pos a (show (0 : Int) < 128 by decide)
  omega
theorem tmod256 (a : Int) : -256 < a.tmod 256 ∧ a.tmod 256 < 256 ∧ (a.tmod 256 + 256) % 256 = a % 256 := by
  have h := Int.tmod_add_mul_tdiv a 256
  have h1 := Int.tmod_lt_of_pos a (show (0 : Int) < 256 by decide)
  have h2 := Int.lt_tmod_of_pos a (show (0 : Int) < 256 by decide)
  omega
end Go.Proofs.Ytflbiichdjhaeaa
