/- The exponential's polynomial behind the logarithm's: a power, but for a small rest. Plain Lean. No condition. -/
import Derived.Test.YtokmjboaeamogaaPhP
namespace Go.Proofs.Ytokmjboaeamogaa
def expL : List Rat := [1, 1, 1/2, 1/6, 1/24, 1/120, 1/720, 1/5040, 1/40320, 1/362880, 1/3628800, 1/39916800, 1/479001600, 1/6227020800, 1/87178291200]
def logL : List Rat := [0, 2, 0, 2/3, 0, 2/5, 0, 2/7, 0, 2/9, 0, 2/11]
def ln2q : Rat := 744261118 / 1073741824
def sB : Rat := 8580 / 50000
/-- The exponential at a * (the logarithm) + c, times g, times d, less u. -/
def gapL (a c g : Rat) (d u : List Rat) : List Rat := padd (pmul (pscale g (pcomp expL (padd [c] (pscale a logL)))) d) (pscale (-1) u)
theorem gapL_ev (a c g : Rat) (d u : List Rat) (s : Rat) : pev (gapL a c g d u) s = g * pev expL (c + a * pev logL s) * pev d s - pev u s := by
  unfold gapL
  rw [pev_add, pev_mul, pev_scale, pev_comp, pev_add, pev_scale, pev_scale]
  have : pev [c] s = c := by show c + s * 0 = c; grind
  rw [this]; grind
theorem gap10 : pabs (gapL 1 0 1 [1, -1] [1, 1]) sB ≤ 1/268435456 := by decide +kernel
theorem gap1p : pabs (gapL 1 (-ln2q) 2 [1, -1] [1, 1]) sB ≤ 1/268435456 := by decide +kernel
theorem gap1m : pabs (gapL 1 ln2q (1/2) [1, -1] [1, 1]) sB ≤ 1/268435456 := by decide +kernel
theorem gap20 : pabs (gapL 2 0 1 [1, -2, 1] [1, 2, 1]) sB ≤ 1/268435456 := by decide +kernel
theorem gap2p : pabs (gapL 2 (-ln2q) 2 [1, -2, 1] [1, 2, 1]) sB ≤ 1/268435456 := by decide +kernel
theorem gap2m : pabs (gapL 2 ln2q (1/2) [1, -2, 1] [1, 2, 1]) sB ≤ 1/268435456 := by decide +kernel
end Go.Proofs.Ytokmjboaeamogaa
