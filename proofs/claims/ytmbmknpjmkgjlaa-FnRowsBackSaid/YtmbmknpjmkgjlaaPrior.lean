/-
  Plain words: the rows before a row: what the program sorts and strikes is what the reference puts in order.
-/
import Derived.Test.YtmbmknpjmkgjlaaApart
namespace Go.Proofs.Ytmbmknpjmkgjlaa

/-- The list that putting one by one builds. -/
def putO {α : Type} (lt eq : α → α → Bool) (L : List α) : List α := L.foldl (adO lt eq) []
theorem putO_snoc {α : Type} (lt eq : α → α → Bool) (L : List α) (b : α) : putO lt eq (L ++ [b]) = adO lt eq (putO lt eq L) b := by simp [putO]
theorem foldl_has {α : Type} {lt eq : α → α → Bool} (O : OrdB lt eq) (c : α) : ∀ (L acc : List α), hasO eq (L.foldl (adO lt eq) acc) c = (hasO eq acc c || hasO eq L c)
  | [], _ => by simp [hasO]
  | b :: L, _ => by
    rw [List.foldl_cons, foldl_has O c L, hasO_ad O, hasO_cons, Bool.or_assoc]
theorem putO_has {α : Type} {lt eq : α → α → Bool} (O : OrdB lt eq) (L : List α) (c : α) : hasO eq (putO lt eq L) c = hasO eq L c := by
  rw [putO, foldl_has O c L []]; simp [hasO]
theorem foldl_srt {α : Type} {lt eq : α → α → Bool} (O : OrdB lt eq) : ∀ (L acc : List α), SrtO lt acc → SrtO lt (L.foldl (adO lt eq) acc)
  | [], _, h => h
  | b :: L, _, h => foldl_srt O L _ (srtO_ad O h b)
theorem putO_srt {α : Type} {lt eq : α → α → Bool} (O : OrdB lt eq) (L : List α) : SrtO lt (putO lt eq L) := foldl_srt O L [] List.Pairwise.nil

/-- How many of the first k bits are set. -/
def nB (c : Nat) : Nat → Nat
  | 0 => 0
  | k + 1 => nB c k + c / 2 ^ k % 2
/-- Tiles spread over the places whose bits are set. -/
def spB (c : Nat) (ts : List Int) : Nat → Int := fun j => if c / 2 ^ j % 2 = 1 then ts.getD (nB c j) 0 else 0
def spL (ts : List Int) (n : Nat) : List (Nat → Int) := ((List.range n).filter fun c => nB c 4 == ts.length).map fun c => spB c ts
/-- What the program appends; what the reference puts; P: the row slides to the row asked for. -/
def prL (P : (Nat → Int) → Bool) (r : List Int) : List (Nat → Int) := (apL [] r).flatMap fun ts => (spL ts 16).filter P
def rfL (P : (Nat → Int) → Bool) (r : List Int) (n : Nat) : List (Nat → Int) := (((List.range n).map fun c => exL c 0 r).filter fun ts => decide (ts.length ≤ 4 ∧ (0 : Int) ∉ ts)).flatMap fun ts => (spL ts 16).filter P
theorem pr_has (P : (Nat → Int) → Bool) {r : List Int} (hp : ∀ t ∈ r, 0 < t) (hl : r.length ≤ 4) (x : Nat → Int) : x ∈ prL P r ↔ x ∈ rfL P r 16 := by
  simp only [prL, rfL, List.mem_flatMap, List.mem_filter, List.mem_map, List.mem_range, decide_eq_true_eq]
  constructor
  · rintro ⟨ts, h, hx⟩
    obtain ⟨c, hc, e, h4, h0⟩ := (mem_ap16 hp hl).1 h
    exact ⟨ts, ⟨⟨c, hc, e⟩, h4, h0⟩, hx⟩
  · rintro ⟨ts, ⟨⟨c, hc, e⟩, h4, h0⟩, hx⟩
    exact ⟨ts, (mem_ap16 hp hl).2 ⟨c, hc, e, h4, h0⟩, hx⟩
/-- Sorted and struck, what the program appended is what the reference built. -/
theorem prior_same (P : (Nat → Int) → Bool) {r : List Int} (hp : ∀ t ∈ r, 0 < t) (hl : r.length ≤ 4) {l' : List (Nat → Int)} (hq : l'.Perm (prL P r)) (hs : l'.Pairwise fun a c => ltR c a = false) :
    (cpA eqR l').length = (putO ltR eqR (rfL P r 16)).length ∧ ∀ (i : Nat) (x y : Nat → Int), (cpA eqR l')[i]? = some x → (putO ltR eqR (rfL P r 16))[i]? = some y → eqR x y = true :=
  uniqO ordR _ _ (srtO_cp ordR l' hs) (putO_srt ordR _) (fun c => by
    rw [hasO_cp ordR, hasO_perm hq, putO_has ordR, Bool.eq_iff_iff, hasO_iff, hasO_iff]
    exact ⟨fun ⟨a, h1, h2⟩ => ⟨a, (pr_has P hp hl a).1 h1, h2⟩, fun ⟨a, h1, h2⟩ => ⟨a, (pr_has P hp hl a).2 h1, h2⟩⟩)

end Go.Proofs.Ytmbmknpjmkgjlaa
