/-
  Words for ParseInt: the digits of a text, the number that they spell.
-/
import Derived.Test.YtbgfdeicjaencaaDoorFmt
import Derived.Lib.AtoiTie
import Derived.Lib.AtoiAllCases
namespace Go.Proofs.YtbgfdeicjaencaaDoor
open Go.RowKit

/-- The number that the first k signs spell. -/
def vlL (l : List UInt8) : Nat → Nat
  | 0 => 0
  | k + 1 => 10 * vlL l k + ((l.getD k 0).toNat - 48)
def dgO (c : UInt8) : Prop := 48 ≤ c.toNat ∧ c.toNat ≤ 57
theorem dg_of {d : Nat} (h : d < 10) : (UInt8.ofNat (48 + d)).toNat = 48 + d := by
  have : ∀ d, d < 10 → (UInt8.ofNat (48 + d)).toNat = 48 + d := by decide
  exact this d h
theorem vlL_app (l m : List UInt8) : ∀ k, k ≤ l.length → vlL (l ++ m) k = vlL l k
  | 0, _ => rfl
  | k + 1, h => by
    unfold vlL
    rw [vlL_app l m k (by omega)]
    congr 3
    simp [List.getD, List.getElem?_append_left (show k < l.length by omega)]
/-- The digits of a number: one to six, each a digit; they spell it; none is a sign. -/
theorem dd_all (u : Nat) : (∀ k, k < (Lib.decDigits u).length → dgO ((Lib.decDigits u).getD k 0)) ∧ 1 ≤ (Lib.decDigits u).length ∧ vlL (Lib.decDigits u) (Lib.decDigits u).length = u := by
  induction u using Nat.strongRecOn with
  | ind u ih =>
    by_cases h : u < 10
    · rw [dd_small h]
      have hd := dg_of h
      refine ⟨fun k hk => ?_, by simp, ?_⟩
      · have : k = 0 := by simpa using hk
        subst this
        show dgO (UInt8.ofNat (48 + u))
        unfold dgO; omega
      · show 10 * 0 + ((UInt8.ofNat (48 + u)).toNat - 48) = u
        omega
    · obtain ⟨h1, h2, h3⟩ := ih (u / 10) (by omega)
      rw [dd_big h]
      have hd := dg_of (show u % 10 < 10 by omega)
      have hl : (Lib.decDigits (u / 10) ++ [UInt8.ofNat (48 + u % 10)]).length = (Lib.decDigits (u / 10)).length + 1 := by simp
      have hg : (Lib.decDigits (u / 10) ++ [UInt8.ofNat (48 + u % 10)]).getD (Lib.decDigits (u / 10)).length 0 = UInt8.ofNat (48 + u % 10) := by simp [List.getD]
      refine ⟨fun k hk => ?_, by omega, ?_⟩
      · rw [hl] at hk
        by_cases hk2 : k < (Lib.decDigits (u / 10)).length
        · have := h1 k hk2
          rwa [List.getD, List.getElem?_append_left hk2]
        · have : k = (Lib.decDigits (u / 10)).length := by omega
          subst this
          rw [hg]
          unfold dgO; omega
      · rw [hl]
        unfold vlL
        rw [hg, vlL_app _ _ _ (Nat.le_refl _), h3]
        omega
theorem dd_len6 : ∀ (k u : Nat), u < 10 ^ (k + 1) → (Lib.decDigits u).length ≤ k + 1
  | 0, u, h => by rw [dd_small (by simpa using h)]; simp
  | k + 1, u, h => by
    by_cases h1 : u < 10
    · rw [dd_small h1]; simp
    · rw [dd_big h1]
      have := dd_len6 k (u / 10) (by rw [Nat.pow_succ] at h; omega)
      simp; omega
theorem vlL_lt (l : List UInt8) : ∀ k, (∀ j, j < k → dgO (l.getD j 0)) → vlL l k < 10 ^ k
  | 0, _ => by simp [vlL]
  | k + 1, h => by
    have h1 := vlL_lt l k fun j hj => h j (by omega)
    have h2 := h k (by omega)
    unfold dgO at h2
    unfold vlL
    rw [Nat.pow_succ]
    omega

/-- The text without its sign. -/
def ngO (s : ByteArray) : Bool := decide (1 < s.size) && decide (s.data.toList.getD 0 0 = 45)
def stS (s : ByteArray) : ByteArray := if ngO s = true then s.extract 1 s.size else s
theorem ext_data (s : ByteArray) : (s.extract 1 s.size).data.toList = s.data.toList.drop 1 := by
  rw [ByteArray.data_extract, Array.toList_extract, List.extract_eq_drop_take', List.take_of_length_le]
  simp
theorem mkS_data' (l : List UInt8) : (mkS l).data.toList = l := by simp [mkS]
theorem st_itoa {n : Int} (h : -999999 ≤ n ∧ n ≤ 999999) : (stS (mkS (Lib.itoa n))).data.toList = Lib.decDigits n.natAbs ∧ ngO (mkS (Lib.itoa n)) = decide (n < 0) := by
  by_cases h0 : n < 0
  · obtain ⟨u, rfl⟩ : ∃ u : Nat, n = -(u : Int) := ⟨n.natAbs, by omega⟩
    have hu : 1 ≤ u := by omega
    have e := Lib.itoa_neg u hu
    have hl := (dd_all u).2.1
    have hg : ngO (mkS (Lib.itoa (-(u : Int)))) = true := by
      unfold ngO
      rw [e, mkS_size, mkS_data']
      simp; omega
    refine ⟨?_, by rw [hg, decide_eq_true h0]⟩
    unfold stS
    rw [if_pos hg, ext_data, mkS_data', e]
    simp
  · obtain ⟨u, rfl⟩ : ∃ u : Nat, n = (u : Int) := ⟨n.toNat, by omega⟩
    have e := Lib.itoa_nonneg u
    obtain ⟨h1, h2, _⟩ := dd_all u
    have h3 := h1 0 (by omega)
    have hg : ngO (mkS (Lib.itoa (u : Int))) = false := by
      unfold ngO
      rw [e, mkS_data']
      have h4 : ¬ (Lib.decDigits u).getD 0 0 = 45 := by
        intro h; rw [h] at h3
        have : (45 : UInt8).toNat = 45 := rfl
        unfold dgO at h3; omega
      rw [decide_eq_false h4, Bool.and_false]
    refine ⟨?_, by rw [hg, decide_eq_false h0]⟩
    unfold stS
    rw [if_neg (by rw [hg]; exact Bool.false_ne_true), mkS_data', e]
    simp

/-- What ParseInt makes of a text. -/
def PIs (s : ByteArray) (n : Int) (ok : Bool) : Prop := (ok = true → (-999999 ≤ n ∧ n ≤ 999999) ∧ s = mkS (Lib.itoa n)) ∧ (ok = false → n = 0 ∧ ∀ m, -999999 ≤ m ∧ m ≤ 999999 → s ≠ mkS (Lib.itoa m))
theorem pis_ex (s : ByteArray) : ∃ n ok, PIs s n ok := by
  by_cases h : ∃ m, (-999999 ≤ m ∧ m ≤ 999999) ∧ s = mkS (Lib.itoa m)
  · obtain ⟨m, h1, h2⟩ := h
    exact ⟨m, true, fun _ => ⟨h1, h2⟩, fun h => by cases h⟩
  · exact ⟨0, false, fun h => (by cases h), fun _ => ⟨rfl, fun m hm hs => h ⟨m, hm, hs⟩⟩⟩
/-- The number that the stripped text spells, with its sign. -/
def vlS (s : ByteArray) : Int := if ngO s = true then -(vlL (stS s).data.toList (stS s).size : Int) else (vlL (stS s).data.toList (stS s).size : Int)
theorem pis_true {s : ByteArray} {n : Int} (h : PIs s n true) : (-999999 ≤ n ∧ n ≤ 999999) ∧ s = mkS (Lib.itoa n) ∧ 1 ≤ (stS s).size ∧ (stS s).size ≤ 6 ∧ (∀ k, k < (stS s).size → dgO ((stS s).data.toList.getD k 0)) ∧ vlS s = n := by
  obtain ⟨h1, rfl⟩ := h.1 rfl
  obtain ⟨e1, e2⟩ := st_itoa h1
  obtain ⟨d1, d2, d3⟩ := dd_all n.natAbs
  have hsz : (stS (mkS (Lib.itoa n))).size = (Lib.decDigits n.natAbs).length := by
    rw [← e1, Array.length_toList]; rfl
  have h6 := dd_len6 5 n.natAbs (by omega)
  refine ⟨h1, rfl, by omega, by omega, ?_, ?_⟩
  · rw [hsz, e1]; exact d1
  · unfold vlS
    rw [e2, e1, hsz, d3]
    by_cases h0 : n < 0
    · rw [if_pos (decide_eq_true h0)]; omega
    · rw [if_neg (by simpa using h0)]; omega
theorem itoa_inj {n m : Int} (hn : -999999 ≤ n ∧ n ≤ 999999) (hm : -999999 ≤ m ∧ m ≤ 999999) (h : mkS (Lib.itoa n) = mkS (Lib.itoa m)) : n = m := by
  have a := (pis_true (s := mkS (Lib.itoa n)) (n := n) ⟨fun _ => ⟨hn, rfl⟩, fun h => (by cases h)⟩).2.2.2.2.2
  have b := (pis_true (s := mkS (Lib.itoa m)) (n := m) ⟨fun _ => ⟨hm, rfl⟩, fun h => (by cases h)⟩).2.2.2.2.2
  rw [← a, h, b]
/-- A text that spells its own number is accepted. -/
theorem pis_own {s : ByteArray} {n v : Int} {ok : Bool} (h : PIs s n ok) (hv : -999999 ≤ v ∧ v ≤ 999999) (hs : mkS (Lib.itoa v) = s) : ok = true ∧ n = v := by
  cases ok
  · exact absurd hs.symm ((h.2 rfl).2 v hv)
  · obtain ⟨h1, h2⟩ := h.1 rfl
    exact ⟨rfl, itoa_inj h1 hv (h2.symm.trans hs.symm)⟩
theorem pis_not {s : ByteArray} {n : Int} {ok : Bool} (h : PIs s n ok) (hn : ok = false) : Ending.returned (.tuple #[.int .i64 0, .bool false]) = .returned (.tuple #[.int .i64 n, .bool ok]) := by
  subst hn
  rw [(h.2 rfl).1]

theorem decFrom_vl (l : List UInt8) (h : ∀ k, k < l.length → dgO (l.getD k 0)) : ∀ k, k ≤ l.length → Lib.decFrom 0 (l.take k) = some (vlL l k)
  | 0, _ => by simp [Lib.decFrom, vlL]
  | k + 1, hk => by
    have h1 := decFrom_vl l h k (by omega)
    have h2 := h k (by omega)
    have h3 : l[k]? = some (l.getD k 0) := by rw [List.getD, List.getElem?_eq_getElem (by omega)]; rfl
    have h4 : Lib.digitVal (l.getD k 0) = some ((l.getD k 0).toNat - 48) := by
      unfold Lib.digitVal
      unfold dgO at h2
      rw [if_pos h2]
    rw [Lib.decFrom_take l k 0 _ _ _ h1 h3 h4, Nat.mul_comm]; rfl
theorem decNat_dd (u : Nat) : Lib.decNat (Lib.decDigits u) = some u := by
  obtain ⟨h1, h2, h3⟩ := dd_all u
  have h := decFrom_vl _ h1 _ (Nat.le_refl _)
  rw [List.take_length, h3] at h
  unfold Lib.decNat
  rw [h, if_neg]
  intro he
  rw [List.isEmpty_iff] at he
  rw [he] at h2; simp at h2
theorem atoi_itoa {n : Int} (h : -999999 ≤ n ∧ n ≤ 999999) : Lib.atoi (Lib.itoa n) = some n := by
  by_cases h0 : n < 0
  · obtain ⟨u, rfl⟩ : ∃ u : Nat, n = -(u : Int) := ⟨n.natAbs, by omega⟩
    rw [Lib.itoa_neg u (by omega)]
    rw [Lib.atoi, if_pos (show ((45 : UInt8) == 45) = true from rfl), decNat_dd]; rfl
  · obtain ⟨u, rfl⟩ : ∃ u : Nat, n = (u : Int) := ⟨n.toNat, by omega⟩
    rw [Lib.itoa_nonneg u]
    obtain ⟨h1, h2, _⟩ := dd_all u
    have h3 := h1 0 (by omega)
    have hd := decNat_dd u
    cases hl : Lib.decDigits u with
    | nil => rw [hl] at h2; simp at h2
    | cons b r =>
      rw [hl] at h3 hd
      have h4 : dgO b := h3
      unfold dgO at h4
      have h5 : ¬ (b == 45) = true := by
        simp only [beq_iff_eq]
        intro e; subst e
        have : (45 : UInt8).toNat = 45 := rfl
        omega
      have h6 : ¬ (b == 43) = true := by
        simp only [beq_iff_eq]
        intro e; subst e
        have : (43 : UInt8).toNat = 43 := rfl
        omega
      rw [Lib.atoi, if_neg h5, if_neg h6, hd]; rfl
theorem pis_atoi {s : ByteArray} {n : Int} (h : PIs s n true) : Lib.atoiAll s.data.toList = .ok n := by
  obtain ⟨h1, rfl⟩ := h.1 rfl
  have hs := pis_true h
  have hl : (Lib.itoa n).length ≤ 18 := by
    have h2 : (stS (mkS (Lib.itoa n))).data.toList = _ := (st_itoa h1).1
    have h6 := dd_len6 5 n.natAbs (by omega)
    unfold Lib.itoa
    split
    · simp; omega
    · have : n.toNat = n.natAbs := by omega
      rw [this]; omega
  rw [mkS_data', Lib.atoiAll_short _ hl, atoi_itoa h1]; rfl

/-- The library's two errors are errors. -/
def ErW (w : World) : Prop := (∃ t p, w.cell? ⟨1, 0, none⟩ = some (.iface t p)) ∧ ∃ t p, w.cell? ⟨2, 0, none⟩ = some (.iface t p)
theorem ErW.call {w w2 : World} (h : ErW w) (hb : Below w.heap.size w w2) : ErW w2 := by
  obtain ⟨⟨t, p, h1⟩, ⟨u, q, h2⟩⟩ := h
  exact ⟨⟨t, p, (hb.cell (p := ⟨1, 0, none⟩) (World.block_lt_of_cell? _ _ h1)).trans h1⟩, ⟨u, q, (hb.cell (p := ⟨2, 0, none⟩) (World.block_lt_of_cell? _ _ h2)).trans h2⟩⟩
def PiD (w : World) : Prop := TabB w ∧ ErW w
theorem PiD.call {w w2 : World} (h : PiD w) (hb : Below w.heap.size w w2) : PiD w2 := ⟨h.1.call hb, h.2.call hb⟩

end Go.Proofs.YtbgfdeicjaencaaDoor
