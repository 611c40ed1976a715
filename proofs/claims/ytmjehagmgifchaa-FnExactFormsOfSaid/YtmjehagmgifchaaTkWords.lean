/-
  Words for TakeTile and PutTile.
-/
import Derived.Test.YtmjehagmgifchaaLine2
import Derived.Test.YtmjehagmgifchaaCellLoop
import Derived.Test.YtmjehagmgifchaaSlide
import Derived.Test.YtmjehagmgifchaaBoard2
import Derived.Test.YtmjehagmgifchaaDir
import Derived.Deep.RegionHeld3
namespace Go.Proofs.Ytmjehagmgifchaa
open Go.RowKit

def xyP (x y : Int) : Nat := x.toNat * 4 + y.toNat
def tkOk (b : Nat → Int) (x y : Int) : Bool := bdB b && ((inB x 0 3 && inB y 0 3) && !(b (xyP x y) == 0))
def ptOk (b : Nat → Int) (x y t : Int) : Bool := bdB b && ((inB x 0 3 && inB y 0 3) && (inB t 1 17 && b (xyP x y) == 0))
theorem two_x {w : World} {B : Nat} {x y : Value} (h : Has w B 2 (fun o => if o = 0 then x else y)) : w.cell? ⟨B, 0, none⟩ = some x := h.1 0 (by omega)
theorem two_y {w : World} {B : Nat} {x y : Value} (h : Has w B 2 (fun o => if o = 0 then x else y)) : w.cell? ⟨B, 1, none⟩ = some y := h.1 1 (by omega)
theorem Has.cl {w : World} {B n o : Nat} {c : Nat → Value} (h : Has w B n c) (ho : o < n) : w.cell? ⟨B, o, none⟩ = some (c o) := h.1 o ho
theorem keep16 {w' : World} {B0 B1 : Nat} {b : Nat → Int} {x y : Value} (h0 : Has w' B0 16 (fun o => .int .i64 (b o))) (h1 : Has w' B1 2 (fun o => if o = 0 then x else y)) : w'.cell? ⟨B0, 0, none⟩ = some (.int .i64 (b 0)) ∧ w'.cell? ⟨B0, 1, none⟩ = some (.int .i64 (b 1)) ∧ w'.cell? ⟨B0, 2, none⟩ = some (.int .i64 (b 2)) ∧ w'.cell? ⟨B0, 3, none⟩ = some (.int .i64 (b 3)) ∧ w'.cell? ⟨B0, 4, none⟩ = some (.int .i64 (b 4)) ∧ w'.cell? ⟨B0, 5, none⟩ = some (.int .i64 (b 5)) ∧ w'.cell? ⟨B0, 6, none⟩ = some (.int .i64 (b 6)) ∧ w'.cell? ⟨B0, 7, none⟩ = some (.int .i64 (b 7)) ∧ w'.cell? ⟨B0, 8, none⟩ = some (.int .i64 (b 8)) ∧ w'.cell? ⟨B0, 9, none⟩ = some (.int .i64 (b 9)) ∧ w'.cell? ⟨B0, 10, none⟩ = some (.int .i64 (b 10)) ∧ w'.cell? ⟨B0, 11, none⟩ = some (.int .i64 (b 11)) ∧ w'.cell? ⟨B0, 12, none⟩ = some (.int .i64 (b 12)) ∧ w'.cell? ⟨B0, 13, none⟩ = some (.int .i64 (b 13)) ∧ w'.cell? ⟨B0, 14, none⟩ = some (.int .i64 (b 14)) ∧ w'.cell? ⟨B0, 15, none⟩ = some (.int .i64 (b 15)) ∧ w'.cell? ⟨B1, 0, none⟩ = some x ∧ w'.cell? ⟨B1, 1, none⟩ = some y :=
  ⟨Has.cl h0 (by omega), Has.cl h0 (by omega), Has.cl h0 (by omega), Has.cl h0 (by omega), Has.cl h0 (by omega), Has.cl h0 (by omega), Has.cl h0 (by omega), Has.cl h0 (by omega), Has.cl h0 (by omega), Has.cl h0 (by omega), Has.cl h0 (by omega), Has.cl h0 (by omega), Has.cl h0 (by omega), Has.cl h0 (by omega), Has.cl h0 (by omega), Has.cl h0 (by omega), two_x h1, two_y h1⟩
theorem keepU {w' : World} {B0 B1 : Nat} {b : Nat → Int} {x y : Value} (h0 : Has w' B0 16 (fun o => .int .i64 (b o))) (h1 : Has w' B1 2 (fun o => if o = 0 then x else y)) : (∀ o, o < 16 → w'.cell? ⟨B0, o, none⟩ = some (.int .i64 (b o))) ∧ w'.cell? ⟨B1, 0, none⟩ = some x ∧ w'.cell? ⟨B1, 1, none⟩ = some y :=
  ⟨h0.1, two_x h1, two_y h1⟩
theorem cell_in {x y : Int} (h : (inB x 0 3 && inB y 0 3) = true) : 0 ≤ x ∧ x < 4 ∧ 0 ≤ y ∧ y < 4 := by
  simp [inB] at h; omega
theorem Calls.bool_as {P : Program} {f : FuncId} {args : Array Value} {w : World} {a b : Bool} (h : Calls P f args w fun e w' => e = .returned (.bool a) ∧ Below w.heap.size w w') (e : a = b) : Calls P f args w fun e w' => e = .returned (.bool b) ∧ Below w.heap.size w w' := e ▸ h
theorem Calls.bool_eq {P : Program} {f : FuncId} {args : Array Value} {w : World} {a b : Bool} (h : Calls P f args w fun e w' => e = .returned (.bool a) ∧ w = w') (e : a = b) : Calls P f args w fun e w' => e = .returned (.bool b) ∧ w = w' := e ▸ h
theorem l2At_xy (b : Nat → Int) (q : Nat) (x y : Int) (hx0 : 0 ≤ x) (hx3 : x < 4) (hy0 : 0 ≤ y) (hy3 : y < 4) (hxy : Hid (x.toNat * 4 + y.toNat = q)) (w : World) :
    Calls Try.prog 135 #[.agg #[.int .i64 (b 0), .int .i64 (b 1), .int .i64 (b 2), .int .i64 (b 3), .int .i64 (b 4), .int .i64 (b 5), .int .i64 (b 6), .int .i64 (b 7), .int .i64 (b 8), .int .i64 (b 9), .int .i64 (b 10), .int .i64 (b 11), .int .i64 (b 12), .int .i64 (b 13), .int .i64 (b 14), .int .i64 (b 15)], .agg #[.int .i64 x, .int .i64 y]] w fun e w' => e = .returned (.int .i64 (b q)) ∧ Below w.heap.size w w' := by
  have h := l2At_any b x y hx0 hx3 hy0 hy3 w
  rw [hxy.out] at h
  exact h
theorem l2Put_xy (b : Nat → Int) (q : Nat) (x y t : Int) (hx0 : 0 ≤ x) (hx3 : x < 4) (hy0 : 0 ≤ y) (hy3 : y < 4) (hxy : Hid (x.toNat * 4 + y.toNat = q)) (w : World) :
    Calls Try.prog 136 #[.agg #[.int .i64 (b 0), .int .i64 (b 1), .int .i64 (b 2), .int .i64 (b 3), .int .i64 (b 4), .int .i64 (b 5), .int .i64 (b 6), .int .i64 (b 7), .int .i64 (b 8), .int .i64 (b 9), .int .i64 (b 10), .int .i64 (b 11), .int .i64 (b 12), .int .i64 (b 13), .int .i64 (b 14), .int .i64 (b 15)], .agg #[.int .i64 x, .int .i64 y], .int .i64 t] w fun e w' => e = .returned (.agg #[.int .i64 ((putB b q t) 0), .int .i64 ((putB b q t) 1), .int .i64 ((putB b q t) 2), .int .i64 ((putB b q t) 3), .int .i64 ((putB b q t) 4), .int .i64 ((putB b q t) 5), .int .i64 ((putB b q t) 6), .int .i64 ((putB b q t) 7), .int .i64 ((putB b q t) 8), .int .i64 ((putB b q t) 9), .int .i64 ((putB b q t) 10), .int .i64 ((putB b q t) 11), .int .i64 ((putB b q t) 12), .int .i64 ((putB b q t) 13), .int .i64 ((putB b q t) 14), .int .i64 ((putB b q t) 15)]) ∧ Below w.heap.size w w' := by
  have h := l2Put_any b x y t hx0 hx3 hy0 hy3 w
  rw [hxy.out] at h
  exact h

end Go.Proofs.Ytmjehagmgifchaa
