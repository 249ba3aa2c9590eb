/-
  Runs, complete rounds: the plain law, with no program in sight. No condition.
-/
import Derived.Test.YtehkcodbcnhhoaaGreatEPlainStart
import Derived.Test.YtehkcodbcnhhoaaGreatEPlainDo
namespace Go.Proofs.YtehkcodbcnhhoaaGreat
set_option linter.all false
/-! ### runs -/
noncomputable def playX (m : Mach) (n : Net) (x : Asy) (a : Acts) : Asy := if mayB n x a = true then doA m n x a else x
noncomputable def runX (m : Mach) (n : Net) (x : Asy) (ys : List Acts) : Asy := ys.foldl (playX m n) x
theorem good_play {m : Mach} {n : Net} {x : Asy} (h : goodP m n x) (a : Acts) : goodP m n (playX m n x a) := by
  unfold playX
  split
  · rename_i hm
    exact good_doA h hm
  · exact h
theorem runX_snoc (m : Mach) (n : Net) (x : Asy) (ys : List Acts) (a : Acts) : runX m n x (ys ++ [a]) = playX m n (runX m n x ys) a := by simp [runX]
theorem good_run {m : Mach} {n : Net} {x : Asy} (h : goodP m n x) (ys : List Acts) : goodP m n (runX m n x ys) := by
  induction ys generalizing x with
  | nil => exact h
  | cons a ys ih => exact ih (good_play h a)
noncomputable def roundsX (m : Mach) (n : Net) : Nat → Asy
  | 0 => startX m n
  | k + 1 => runX m n (roundsX m n k) (roundA n)
theorem good_rounds {m : Mach} {n : Net} (h : fitP m n) : ∀ k, goodP m n (roundsX m n k)
  | 0 => good_start h
  | k + 1 => good_run (good_rounds h k) _
end Go.Proofs.YtehkcodbcnhhoaaGreat
