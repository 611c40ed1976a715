/-
  TakeTile and PutTile once more, their results under names.
-/
import Derived.Test.YtjnmdhnckmmdnaaTake
import Derived.Test.YtjnmdhnckmmdnaaTakeS
import Derived.Test.YtjnmdhnckmmdnaaPut
import Derived.Test.YtjnmdhnckmmdnaaPutS
namespace Go.Proofs.Ytjnmdhnckmmdnaa
open Go.RowKit

def TkIs (b : Nat → Int) (x y : Int) (F : Nat → Int) (n : Int) (ok : Bool) : Prop := F = bz (tkOk b x y) (putB b (xyP x y) 0) ∧ n = zr (tkOk b x y) (b (xyP x y)) ∧ ok = tkOk b x y
theorem takeTile_F (b : Nat → Int) (x y : Int) (F : Nat → Int) (n : Int) (ok : Bool) (h : TkIs b x y F n ok) (w : World) : Calls Try.prog 40 #[.agg #[.int .i64 (b 0), .int .i64 (b 1), .int .i64 (b 2), .int .i64 (b 3), .int .i64 (b 4), .int .i64 (b 5), .int .i64 (b 6), .int .i64 (b 7), .int .i64 (b 8), .int .i64 (b 9), .int .i64 (b 10), .int .i64 (b 11), .int .i64 (b 12), .int .i64 (b 13), .int .i64 (b 14), .int .i64 (b 15)], .agg #[.int .i64 x, .int .i64 y]] w fun e w' => e = .returned (.tuple #[.agg #[.int .i64 (F 0), .int .i64 (F 1), .int .i64 (F 2), .int .i64 (F 3), .int .i64 (F 4), .int .i64 (F 5), .int .i64 (F 6), .int .i64 (F 7), .int .i64 (F 8), .int .i64 (F 9), .int .i64 (F 10), .int .i64 (F 11), .int .i64 (F 12), .int .i64 (F 13), .int .i64 (F 14), .int .i64 (F 15)], .int .i64 n, .bool ok]) ∧ Below w.heap.size w w' := by
  obtain ⟨rfl, rfl, rfl⟩ := h
  exact takeTile_any b x y w
theorem specTakeTile_F (b : Nat → Int) (x y : Int) (F : Nat → Int) (n : Int) (ok : Bool) (h : TkIs b x y F n ok) (w : World) : Calls Try.prog 38 #[.agg #[.int .i64 (b 0), .int .i64 (b 1), .int .i64 (b 2), .int .i64 (b 3), .int .i64 (b 4), .int .i64 (b 5), .int .i64 (b 6), .int .i64 (b 7), .int .i64 (b 8), .int .i64 (b 9), .int .i64 (b 10), .int .i64 (b 11), .int .i64 (b 12), .int .i64 (b 13), .int .i64 (b 14), .int .i64 (b 15)], .agg #[.int .i64 x, .int .i64 y]] w fun e w' => e = .returned (.tuple #[.agg #[.int .i64 (F 0), .int .i64 (F 1), .int .i64 (F 2), .int .i64 (F 3), .int .i64 (F 4), .int .i64 (F 5), .int .i64 (F 6), .int .i64 (F 7), .int .i64 (F 8), .int .i64 (F 9), .int .i64 (F 10), .int .i64 (F 11), .int .i64 (F 12), .int .i64 (F 13), .int .i64 (F 14), .int .i64 (F 15)], .int .i64 n, .bool ok]) ∧ Below w.heap.size w w' := by
  obtain ⟨rfl, rfl, rfl⟩ := h
  exact specTakeTile_any b x y w
def PtIs (b : Nat → Int) (x y t : Int) (F : Nat → Int) (ok : Bool) : Prop := F = bz (ptOk b x y t) (putB b (xyP x y) t) ∧ ok = ptOk b x y t
theorem putTile_F (b : Nat → Int) (x y t : Int) (F : Nat → Int) (ok : Bool) (h : PtIs b x y t F ok) (w : World) : Calls Try.prog 43 #[.agg #[.int .i64 (b 0), .int .i64 (b 1), .int .i64 (b 2), .int .i64 (b 3), .int .i64 (b 4), .int .i64 (b 5), .int .i64 (b 6), .int .i64 (b 7), .int .i64 (b 8), .int .i64 (b 9), .int .i64 (b 10), .int .i64 (b 11), .int .i64 (b 12), .int .i64 (b 13), .int .i64 (b 14), .int .i64 (b 15)], .agg #[.int .i64 x, .int .i64 y], .int .i64 t] w fun e w' => e = .returned (.tuple #[.agg #[.int .i64 (F 0), .int .i64 (F 1), .int .i64 (F 2), .int .i64 (F 3), .int .i64 (F 4), .int .i64 (F 5), .int .i64 (F 6), .int .i64 (F 7), .int .i64 (F 8), .int .i64 (F 9), .int .i64 (F 10), .int .i64 (F 11), .int .i64 (F 12), .int .i64 (F 13), .int .i64 (F 14), .int .i64 (F 15)], .bool ok]) ∧ Below w.heap.size w w' := by
  obtain ⟨rfl, rfl⟩ := h
  exact putTile_any b x y t w
theorem specPutTile_F (b : Nat → Int) (x y t : Int) (F : Nat → Int) (ok : Bool) (h : PtIs b x y t F ok) (w : World) : Calls Try.prog 42 #[.agg #[.int .i64 (b 0), .int .i64 (b 1), .int .i64 (b 2), .int .i64 (b 3), .int .i64 (b 4), .int .i64 (b 5), .int .i64 (b 6), .int .i64 (b 7), .int .i64 (b 8), .int .i64 (b 9), .int .i64 (b 10), .int .i64 (b 11), .int .i64 (b 12), .int .i64 (b 13), .int .i64 (b 14), .int .i64 (b 15)], .agg #[.int .i64 x, .int .i64 y], .int .i64 t] w fun e w' => e = .returned (.tuple #[.agg #[.int .i64 (F 0), .int .i64 (F 1), .int .i64 (F 2), .int .i64 (F 3), .int .i64 (F 4), .int .i64 (F 5), .int .i64 (F 6), .int .i64 (F 7), .int .i64 (F 8), .int .i64 (F 9), .int .i64 (F 10), .int .i64 (F 11), .int .i64 (F 12), .int .i64 (F 13), .int .i64 (F 14), .int .i64 (F 15)], .bool ok]) ∧ Below w.heap.size w w' := by
  obtain ⟨rfl, rfl⟩ := h
  exact specPutTile_any b x y t w

end Go.Proofs.Ytjnmdhnckmmdnaa
