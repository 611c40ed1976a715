/-
  A value that is 0 where the arguments were refused.
-/
import Derived.Test.YtmbmknpjmkgjlaaRow1
namespace Go.Proofs.Ytmbmknpjmkgjlaa

def zr (p : Bool) (x : Int) : Int := if p = true then x else 0
theorem zr_true (x : Int) : zr true x = x := rfl
theorem zr_false (x : Int) : zr false x = 0 := rfl

/-- A board that is empty where the arguments were refused. -/
def bz (p : Bool) (f : Nat → Int) : Nat → Int := fun j => zr p (f j)

end Go.Proofs.Ytmbmknpjmkgjlaa
