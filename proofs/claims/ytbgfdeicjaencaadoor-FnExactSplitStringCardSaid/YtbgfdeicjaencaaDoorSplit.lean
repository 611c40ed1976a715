/-
  Contract: the reference's split of a string.
-/
import Derived.Test.YtbgfdeicjaencaaDoorStand
import Derived.OwnWalk
import Derived.Laws.OwnMore
import Derived.Maps.AppendAt
import Derived.Deep.DeepCutAuto
namespace Go.Proofs.YtbgfdeicjaencaaDoor
open Go.RowKit

/-- What the loop has laid behind k bytes: the parts that have ended, and where the next one begins. -/
def spTo (s : ByteArray) (c : UInt8) : Nat → List ByteArray × Nat
  | 0 => ([], 0)
  | k + 1 => if s.data.toList.getD k 0 = c then ((spTo s c k).1 ++ [s.extract (spTo s c k).2 k], k + 1) else spTo s c k
def spR (s : ByteArray) (c : UInt8) : List ByteArray := (spTo s c s.size).1 ++ [s.extract (spTo s c s.size).2 s.size]
theorem spTo_le (s : ByteArray) (c : UInt8) : ∀ k, (spTo s c k).2 ≤ k ∧ (spTo s c k).1.length ≤ k
  | 0 => ⟨Nat.le_refl _, Nat.le_refl _⟩
  | k + 1 => by
    have := spTo_le s c k
    unfold spTo
    split
    · simp; omega
    · omega
theorem spR_len (s : ByteArray) (c : UInt8) : 1 ≤ (spR s c).length ∧ (spR s c).length ≤ s.size + 1 := by
  have := spTo_le s c s.size
  simp [spR]; omega
def strsV (l : List ByteArray) : List Value := l.map Value.string
theorem info_str3 : (Tryd.prog.info? 9).map (fun i => (i.zero, i.size, i.bytes)) = some (some (.string ByteArray.empty), 1, 16) := by kernel_rfl
theorem own_made0 {w w1 : World} {T size base : Nat} (hW : w.alloc (.cells #[] T) = w1) (hb : base ≤ w.heap.size) : w1.ownsRow base T size (.slice (some ⟨w.heap.size, 0, none⟩) 0 0) 0 [] := by
  subst hW
  exact World.ownsRow_made w #[] 0 hb (Nat.zero_le _) (by simp)
theorem one_cell {wr : World} {T : TypeId} {x : Value} : ∀ (j : Nat) (u : Value), ([x] : List Value)[j]? = some u → (wr.alloc (.cells #[x] T)).cell? ((⟨wr.heap.size, 0, none⟩ : Addr).add j) = some u := by
  intro j u hj
  have hn := Has.new' (w := wr) (cs := #[x]) (T := T) (n := 1) rfl
  rw [Addr.add_lit]
  rcases (by omega : j = 0 ∨ 1 ≤ j) with rfl | h
  · simp at hj; subst hj; exact hn.1 0 (by omega)
  · rw [List.getElem?_eq_none (by simpa using h)] at hj; cases hj

set_option maxRecDepth 100000 in
set_option maxHeartbeats 4000000 in
theorem l1Split_own (s : ByteArray) (c : UInt8) (hs : s.size ≤ 1048576) (w : World) : Calls Tryd.prog 39 #[.string s, .int .u8 (c.toNat : Int)] w fun e w' => ∃ v, e = .returned v ∧ w'.ownsRow w.heap.size 9 1 v (spR s c).length (strsV (spR s c)) ∧ Below w.heap.size w w' := by
  obtain ⟨i0, hi0, hz0, hz1, hz2⟩ := info_parts info_str3
  go_enter Tryd.func39, Tryd.ntmps39
  go_upto_region 2 with (fail)
  generalize hW : World.alloc _ _ = w1
  have hB : Below w.heap.size w w1 := by (rw [← hW]; exact (by repeat (first | (with_reducible exact Below.refl _ _) | (with_reducible assumption) | (with_reducible refine below_go ?_ (by with_reducible assumption)) | (with_reducible refine below_new ?_ _) | ((with_reducible refine below_put ?_ ?_ _); rotate_left; (dsimp only; omega)) | (with_reducible refine Below.drew ?_) | (with_reducible refine below_dn ?_ _))))
  have hown : w1.ownsRow w.heap.size 9 1 (.slice (some ⟨w.heap.size, 0, none⟩) 0 0) 0 (strsV []) := own_made0 hW (Nat.le_refl _)
  clear hW
  go_wp2_with fail
  go_loopw [5, 6, 7] (fun v f i wr => ∃ (v' : Value) (k : Nat), v' = v ∧ k ≤ s.size ∧ i = .int .i64 k ∧ f = .int .i64 ((spTo s c k).2 : Int) ∧ wr.ownsRow w.heap.size 9 1 v' (spTo s c k).1.length (strsV (spTo s c k).1) ∧ Below w.heap.size w wr) (fun _ _ i _ => s.size - (intOf i).toNat)
  case atStart => exact ⟨_, 0, rfl, Nat.zero_le _, rfl, rfl, hown, hB⟩
  case round =>
    clear hB hown
    obtain ⟨v0, k, rfl, hk, rfl, rfl, hown, hB⟩ := hrel
    obtain ⟨hf, hl⟩ := spTo_le s c k
    have hf1 : ((spTo s c k).2 : Int) ≤ k := by omega
    have hf0 : (0 : Int) ≤ (spTo s c k).2 := by omega
    by_cases hlt : k < s.size
    · have a1 : (0 : Int) ≤ k := by omega
      have a2 : (k : Int) < s.size := by omega
      have hga : s.data.toList.getD k 0 = s[k] := by
        have h2 : k < s.data.toList.length := by simpa using hlt
        rw [List.getD, List.getElem?_eq_getElem h2]; rfl
      by_cases he : s[k] = c
      · have e1 : ((s[k].toNat : Int) == (c.toNat : Int)) = true := by rw [he]; simp
        have HN : Hid (spTo s c (k + 1) = ((spTo s c k).1 ++ [s.extract (spTo s c k).2 k], k + 1)) := by
          show (if s.data.toList.getD k 0 = c then _ else _) = _
          rw [if_pos (hga.trans he)]
        clear he hga
        go_wp2_with (at_builtin; refine wpList_append_own _ rfl (.tmp 20) (.tmp 25) 25 rfl w.heap.size 9 i0 (.string ByteArray.empty) 1 16 Tryd.underlying25 hi0 hz0 hz1 hz2 rfl (by decide) _ (spTo s c k).1.length (strsV (spTo s c k).1) rfl (hown.alloc _) ⟨wr.heap.size, 0, none⟩ 1 1 [.string (s.extract (spTo s c k).2 k)] rfl rfl ?c1 ?c2 ?c3 ?c4 ?c5 ?_)
        case c1 => exact one_cell
        case c2 => intro u hu; simp at hu; subst hu; rfl
        case c3 => unfold maxLen; omega
        case c4 => omega
        case c5 => have := hB.size; simp; omega
        intro v' w5 hown' hgrow _
        have hB5 : Below w.heap.size w w5 := (below_new hB _).grown hgrow (by have := hB.size; simp; omega) (fun q hq => (hown.lt q hq).1)
        have hown5 : w5.ownsRow w.heap.size 9 1 v' (spTo s c (k + 1)).1.length (strsV (spTo s c (k + 1)).1) := by
          rw [HN.out]
          simpa [strsV] using hown'
        clear hown hB hgrow hown'
        go_wp2
        go_roundw
        case rel => exact ⟨_, k + 1, rfl, by omega, by go_num, by rw [HN.out]; go_num, hown5, hB5⟩
        case measure => simp [intOf]; omega
      · have e1 : ((s[k].toNat : Int) == (c.toNat : Int)) = false := by
          simp only [beq_eq_false_iff_ne, ne_eq]
          intro h
          exact he (UInt8.toNat_inj.1 (by omega))
        have HN : Hid (spTo s c (k + 1) = spTo s c k) := by
          show (if s.data.toList.getD k 0 = c then _ else _) = _
          rw [if_neg (by rw [hga]; exact he)]
        clear he hga
        go_wp2
        go_roundw
        case rel => exact ⟨_, k + 1, rfl, by omega, by go_num, by rw [HN.out], by rw [HN.out]; exact hown, hB⟩
        case measure => simp [intOf]; omega
    · obtain ⟨K, hK⟩ : ∃ K, K = k := ⟨_, rfl⟩
      have hKs : k = s.size := by omega
      have hf2 : ((spTo s c k).2 : Int) ≤ s.size := by omega
      have HK := hide hKs
      have HR : Hid (spR s c = (spTo s c k).1 ++ [s.extract (spTo s c k).2 s.size]) := by rw [HK.out]; rfl
      have hnl : ¬ (k : Int) < s.size := by omega
      clear hKs hK hlt
      go_wp2_with (at_builtin; refine wpList_append_own _ rfl (.tmp 29) (.tmp 33) 25 rfl w.heap.size 9 i0 (.string ByteArray.empty) 1 16 Tryd.underlying25 hi0 hz0 hz1 hz2 rfl (by decide) _ (spTo s c k).1.length (strsV (spTo s c k).1) rfl (hown.alloc _) ⟨wr.heap.size, 0, none⟩ 1 1 [.string (s.extract (spTo s c k).2 s.size)] rfl rfl one_cell ?d2 ?d3 ?d4 ?d5 ?_)
      case d2 => first | rfl | (intro u hu; simp at hu; subst hu; rfl)
      case d3 => unfold maxLen; omega
      case d4 => omega
      case d5 => have := hB.size; simp; omega
      intro v' w5 hown' hgrow _
      have hB5 : Below w.heap.size w w5 := (below_new hB _).grown hgrow (by have := hB.size; simp; omega) (fun q hq => (hown.lt q hq).1)
      have hown5 : w5.ownsRow w.heap.size 9 1 v' (spR s c).length (strsV (spR s c)) := by
        rw [HR.out]
        simpa [strsV] using hown'
      clear hown hB hgrow hown'
      go_wp2
      go_ret
      exact ⟨_, rfl, hown5, hB5⟩

end Go.Proofs.YtbgfdeicjaencaaDoor
