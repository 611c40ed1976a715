/-
  Contract: the lists of tiles out of which given tiles may have come (the program's).
-/
import Derived.Test.YtmbmknpjmkgjlaaRsW
import Derived.Test.YtmbmknpjmkgjlaaApart
import Derived.Test.YtmbmknpjmkgjlaaTiles
import Derived.IntWalk
namespace Go.Proofs.Ytmbmknpjmkgjlaa
open Go.RowKit

def nints (l : List Int) : List Value := l.map fun t => .int .i64 t
/-- The slice at A begins a run of numbers out of a block that is not q. -/
def NumsAt (w : World) (q : Option Nat) (A : Option Addr) (l : List Int) : Prop := 0 < l.length → ∃ (g o N : Nat) (c : Nat → Int), A = some ⟨g, o, none⟩ ∧ q ≠ some g ∧ o + l.length ≤ N ∧ Has w g N (fun i => .int .i64 (c i)) ∧ ∀ i, i < l.length → c (o + i) = l.getD i 0
theorem NumsAt.next {w w' : World} {q q' : Option Nat} {A : Option Addr} {l : List Int} (h : NumsAt w q A l) (hg : w.grownBy w' q) (hq : q' = q ∨ ∀ g, q' = some g → w.heap.size ≤ g) : NumsAt w' q' A l := by
  intro hl
  obtain ⟨g, o, N, c, rfl, hne, hle, hH, hc⟩ := h hl
  refine ⟨g, o, N, c, rfl, ?_, hle, hH.grown hg hne, hc⟩
  rcases hq with rfl | hq
  · exact hne
  · intro he
    have := hq g he
    have := hH.2.2
    omega
theorem NumsAt.call {w w' : World} {q : Option Nat} {A : Option Addr} {l : List Int} (h : NumsAt w q A l) (hb : Below w.heap.size w w') : NumsAt w' q A l := by
  intro hl
  obtain ⟨g, o, N, c, rfl, hne, hle, hH, hc⟩ := h hl
  exact ⟨g, o, N, c, rfl, hne, hle, hH.call hb, hc⟩
theorem NumsAt.tail {w : World} {q : Option Nat} {g o : Nat} {t : Int} {r : List Int} (h : NumsAt w q (some ⟨g, o, none⟩) (t :: r)) {A : Option Addr} (hA : 0 < r.length → A = some ⟨g, o + 1, none⟩) : NumsAt w q A r := by
  intro hl
  obtain ⟨g', o', N, c, he, hne, hle, hH, hc⟩ := h (by simp)
  cases he
  refine ⟨g, o + 1, N, c, hA hl, hne, by simp at hle; omega, hH, fun i hi => ?_⟩
  have := hc (i + 1) (by simp; omega)
  rw [show o + 1 + i = o + (i + 1) by omega, this]
  rfl
theorem grown_refl (w : World) (q : Option Nat) : w.grownBy w q := ⟨rfl, rfl, rfl, Nat.le_refl _, fun _ _ _ => rfl⟩
theorem grown_trans {w w1 w2 : World} {q q1 : Option Nat} (h : w.grownBy w1 q) (h2 : w1.grownBy w2 q1) (hq : q1 = q ∨ ∀ g, q1 = some g → w.heap.size ≤ g) : w.grownBy w2 q := by
  refine ⟨h2.os.trans h.os, h2.tape.trans h.tape, h2.output.trans h.output, Nat.le_trans h.size h2.size, fun k hk hne => ?_⟩
  have hk1 : k < w1.heap.size := Nat.lt_of_lt_of_le hk h.size
  rw [h2.block k hk1 (fun he => ?_), h.block k hk hne]
  rcases hq with rfl | hq
  · exact hne he
  · have := hq k he.symm
    omega
theorem grown_below {w w1 : World} (q : Option Nat) (h : Below w.heap.size w w1) : w.grownBy w1 q :=
  ⟨h.os, h.tape, h.output, h.size, fun k hk _ => h.block k hk⟩
theorem at_trans {w w1 : World} {q q1 q2 : Option Nat} (hs : w.heap.size ≤ w1.heap.size) (h1 : q1 = q ∨ ∀ g, q1 = some g → w.heap.size ≤ g) (h2 : q2 = q1 ∨ ∀ g, q2 = some g → w1.heap.size ≤ g) : q2 = q ∨ ∀ g, q2 = some g → w.heap.size ≤ g := by
  rcases h2 with rfl | h2
  · exact h1
  · exact .inr fun g hg => Nat.le_trans hs (h2 g hg)
theorem own_none (w : World) (base e size : Nat) : w.ownsRow base e size (.slice none 0 0) 0 [] := ⟨by simp, .inl ⟨rfl, rfl⟩⟩
theorem clone_nil (w : World) : Calls Try.prog 80 #[.slice none 0 0] w fun e w' => e = .returned (.slice none 0 0) ∧ w = w' := by
  have q22 : ∀ (w : World) (a : Option Addr) (n c n' c' : Nat), (binOp .eql 54 (.slice a n c) (.slice none n' c')).run Try.prog w = .ok (.bool a.isNone) w := fun w a n c n' c' => Lib.run_eql_slice_nil w _ _ a n c n' c' Try.underlying54
  go_enter Try.func80, Try.ntmps80
  go_wp2
  go_ret
  exact ⟨rfl, rfl⟩
theorem clone_nums (w : World) (l : List Int) (n : Nat) (A : Option Addr) (cap : Nat) (q : Option Nat) (hn : n = l.length) (hl : l.length ≤ 65536) (h0 : l = [] → A = none ∧ cap = 0) (h : NumsAt w q A l) :
    Calls Try.prog 80 #[.slice A n cap] w fun e w' => ∃ v, e = .returned v ∧ w'.ownsRow w.heap.size 3 1 v n (nints l) ∧ Below w.heap.size w w' := by
  subst hn
  cases l with
  | nil =>
    obtain ⟨rfl, rfl⟩ := h0 rfl
    refine (clone_nil w).mono ?_
    rintro e w' ⟨rfl, rfl⟩
    exact ⟨_, rfl, own_none _ _ _ _, Below.refl _ _⟩
  | cons t r =>
    obtain ⟨g, o, N, c, rfl, hne, hle, hH, hc⟩ := h (by simp)
    refine (clone_any g o (t :: r).length cap N c w hH hle hl).mono ?_
    rintro e w' ⟨v, rfl, hown, hb⟩
    refine ⟨v, rfl, ?_, hb⟩
    have e : (List.range (t :: r).length).map (fun i => Value.int .i64 (c (o + i))) = nints (t :: r) := by
      apply List.ext_getElem
      · simp [nints]
      · intro i h1 h2
        have hi : i < (t :: r).length := by simpa using h1
        simp only [List.getElem_map, List.getElem_range, nints, hc i hi]
        simp [List.getD, List.getElem?_eq_getElem hi]
    rw [← e]; exact hown
theorem own_nums {w : World} {base n : Nat} {v : Value} {xs : List Value} {l : List Int} {q : Option Nat} (own : w.ownsRow base 3 1 v n xs) (h1 : n = l.length ∧ xs = nints l) (hq : ∀ b, q = some b → b < base) : ∃ A c, v = .slice A n c ∧ NumsAt w q A l := by
  obtain ⟨rfl, rfl⟩ := h1
  obtain ⟨A, c, rfl, _, hS⟩ := own_sl own
  refine ⟨A, c, rfl, fun hl => ?_⟩
  obtain ⟨g, rfl, hg, hH⟩ := hS (by omega)
  refine ⟨g, 0, l.length * 1, fun i => l.getD i 0, rfl, fun he => by have := hq g he; omega, by omega, hH.congr fun o ho => ?_, fun i _ => by rw [Nat.zero_add]⟩
  have ho' : o < l.length := by omega
  simp [nints, List.getD, ho']
theorem nums_one {w : World} {B : Nat} {t : Int} (h : Has w B 1 (fun o => (#[Value.int .i64 t] : Array Value).getD o undef)) : ∀ (j : Nat) (u : Value), ([.int .i64 t] : List Value)[j]? = some u → w.cell? ((⟨B, 0, none⟩ : Addr).add j) = some u := by
  intro j u hj
  have hlt : j < 1 := by have := (List.getElem?_eq_some_iff.1 hj).1; simpa using this
  obtain rfl : j = 0 := by omega
  rw [Addr.add_lit, h.1 0 (by omega)]
  exact hj
theorem nums_two {w : World} {B : Nat} {s t : Int} (h : Has w B 2 (fun o => (#[Value.int .i64 s, .int .i64 t] : Array Value).getD o undef)) : ∀ (j : Nat) (u : Value), ([.int .i64 s, .int .i64 t] : List Value)[j]? = some u → w.cell? ((⟨B, 0, none⟩ : Addr).add j) = some u := by
  intro j u hj
  have hlt : j < 2 := by have := (List.getElem?_eq_some_iff.1 hj).1; simpa using this
  rcases (by omega : j = 0 ∨ j = 1) with rfl | rfl
  · rw [Addr.add_lit, h.1 0 (by omega)]; exact hj
  · rw [Addr.add_lit, h.1 1 (by omega)]; exact hj
theorem one_cell {wr : World} {T : TypeId} {x : Value} : ∀ (j : Nat) (u : Value), ([x] : List Value)[j]? = some u → (wr.alloc (.cells #[x] T)).cell? ((⟨wr.heap.size, 0, none⟩ : Addr).add j) = some u := by
  intro j u hj
  have hn := Has.new' (w := wr) (cs := #[x]) (T := T) (n := 1) rfl
  rw [Addr.add_lit]
  rcases (by omega : j = 0 ∨ 1 ≤ j) with rfl | h
  · simp at hj; subst hj; exact hn.1 0 (by omega)
  · rw [List.getElem?_eq_none (by simpa using h)] at hj; cases hj
theorem info_Ints3 : (Try.prog.info? 54).map (fun i => (i.zero, i.size, i.bytes)) = some (some (.slice none 0 0), 1, 24) := by kernel_rfl

/-- A slice of slices of numbers that the call owns. -/
def ApS (w : World) (B0 : Nat) (v : Value) (L : List (List Int)) : Prop := ∃ vals : List Value, w.ownsRow B0 54 1 v L.length vals ∧ vals.length = L.length ∧ ∀ j, j < L.length → ∃ A c, vals[j]? = some (.slice A (L.getD j []).length c) ∧ NumsAt w v.ownBlock A (L.getD j [])
theorem ApS.call {w w' : World} {B0 : Nat} {v : Value} {L : List (List Int)} (h : ApS w B0 v L) (hb : Below w.heap.size w w') : ApS w' B0 v L := by
  obtain ⟨vals, own, hl, hj⟩ := h
  refine ⟨vals, own_call own hb, hl, fun j hlt => ?_⟩
  obtain ⟨A, c, e, hN⟩ := hj j hlt
  exact ⟨A, c, e, hN.call hb⟩
theorem ApS.snoc {w w' : World} {B0 : Nat} {v v' : Value} {L : List (List Int)} {vals : List Value} {A : Option Addr} {n c : Nat} {l : List Int} (hl : vals.length = L.length) (hj : ∀ j, j < L.length → ∃ A c, vals[j]? = some (.slice A (L.getD j []).length c) ∧ NumsAt w v.ownBlock A (L.getD j []))
    (own' : w'.ownsRow B0 54 1 v' (L.length + 1) (vals ++ [.slice A n c])) (hn : n = l.length) (hN : NumsAt w v.ownBlock A l) (hg : w.grownBy w' v.ownBlock) (hq : v'.ownBlock = v.ownBlock ∨ ∀ g, v'.ownBlock = some g → w.heap.size ≤ g) : ApS w' B0 v' (L ++ [l]) := by
  subst hn
  refine ⟨vals ++ [.slice A l.length c], by rw [List.length_append]; exact own', by simp [hl], fun j hlt => ?_⟩
  simp only [List.length_append, List.length_cons, List.length_nil] at hlt
  by_cases h1 : j < L.length
  · obtain ⟨A1, c1, e, hN1⟩ := hj j h1
    have e2 : (L ++ [l]).getD j [] = L.getD j [] := by simp [List.getD, List.getElem?_append_left h1]
    rw [e2]
    exact ⟨A1, c1, by rw [List.getElem?_append_left (by omega)]; exact e, hN1.next hg hq⟩
  · obtain rfl : j = L.length := by omega
    have e2 : (L ++ [l]).getD L.length [] = l := by simp [List.getD]
    rw [e2]
    exact ⟨A, c, by rw [List.getElem?_append_right (by omega), hl]; simp, hN.next hg hq⟩
theorem aps_lt {w : World} {B0 : Nat} {v : Value} {L : List (List Int)} (h : ApS w B0 v L) : ∀ b, v.ownBlock = some b → b < w.heap.size := by
  obtain ⟨vals, own, _⟩ := h
  exact fun b hb => (own.lt b hb).2
theorem apL_over {d : List Int} (h : 4 < d.length) (r : List Int) : apL d r = [] := by cases r <;> simp [apL, h]
theorem apL_nil {d : List Int} (h : ¬ 4 < d.length) : apL d [] = [d] := by simp [apL, h]
theorem apL_cons {d : List Int} (h : ¬ 4 < d.length) (t : Int) (r : List Int) : apL d (t :: r) = apL (d ++ [t]) r ++ (if 1 < t then apL (d ++ [t - 1, t - 1]) r else []) := by simp [apL, h]
theorem apL_len : ∀ (r d : List Int), (apL d r).length ≤ 2 ^ r.length
  | [], d => by
    simp only [apL]
    split <;> simp
  | t :: r, d => by
    have h1 := apL_len r (d ++ [t])
    have h2 := apL_len r (d ++ [t - 1, t - 1])
    have e : 2 ^ (t :: r).length = 2 ^ r.length + 2 ^ r.length := by rw [List.length_cons, Nat.pow_succ]; omega
    rw [e]
    simp only [apL]
    split
    · simp
    · rw [List.length_append]
      split
      · omega
      · simp; omega

set_option maxHeartbeats 16000000 in
set_option maxRecDepth 100000 in
theorem apart_any (B0 : Nat) (r : List Int) : (∀ t ∈ r, 1 ≤ t ∧ t ≤ 17) → ∀ (d : List Int), d.length + 2 * r.length ≤ 20 → ∀ (L : List (List Int)), L.length + 2 ^ r.length ≤ 1000 → ∀ (w : World) (v : Value), B0 ≤ w.heap.size → ApS w B0 v L → ∀ (nd nl : Nat) (Ad Al : Option Addr) (cd cl : Nat), nd = d.length → nl = r.length → nl ≤ cl → (d = [] → Ad = none ∧ cd = 0) → NumsAt w v.ownBlock Ad d → NumsAt w v.ownBlock Al r →
    Calls Try.prog 71 #[v, .slice Ad nd cd, .slice Al nl cl] w fun e w' => ∃ v', e = .returned v' ∧ ApS w' B0 v' (L ++ apL d r) ∧ w.grownBy w' v.ownBlock ∧ (v'.ownBlock = v.ownBlock ∨ ∀ g, v'.ownBlock = some g → w.heap.size ≤ g) := by
  induction r with
  | nil =>
    intro _ d hdl L hL w v hB0 hAp nd nl Ad Al cd cl hnd hnl hcl hd0 hD _
    subst hnl
    have hL' : L.length ≤ 1000 := Nat.le_trans (Nat.le_add_right _ _) hL
    clear hL
    by_cases h4 : 4 < d.length
    · have h4i : (4 : Int) < nd := by omega
      have HF : Hid (ApS w B0 v (L ++ apL d [])) := hide (by rw [apL_over h4, List.append_nil]; exact hAp)
      clear hAp hD hd0 hnd
      go_enter Try.func71, Try.ntmps71
      go_wp2
      go_ret
      exact ⟨v, rfl, HF.out, grown_refl _ _, .inl rfl⟩
    · have h4i : ¬ (4 : Int) < nd := by omega
      obtain ⟨i1s, hj0, hj1, hj2, hj3⟩ := info_parts info_Ints3
      have HCL := hide (clone_nums w d nd Ad cd _ hnd (by omega) hd0 hD)
      obtain ⟨vals, own, hvl, hvj⟩ := hAp
      have HND := hide hnd
      have HE := hide (apL_nil h4)
      have HLT := hide (fun b hb => (own.lt b hb).2)
      have HOWN := hide own
      have HVJ := hide hvj
      clear own hvj hD hd0 hnd h4
      go_enter Try.func71, Try.ntmps71
      go_wp2_with (first | ((go_at_call 80); (with_reducible refine HCL.out.mono ?_); rintro e w2 ⟨v2, rfl, own2, hb2⟩; obtain ⟨A2, c2, rfl, hN2⟩ := own_nums own2 ⟨HND.out, rfl⟩ HLT.out) | (at_builtin; refine wpList_append_own_at _ rfl _ _ 68 rfl B0 54 i1s (.slice none 0 0) 1 24 Try.underlying68 hj0 hj1 hj2 hj3 rfl (by decide) _ L.length vals rfl ((own_call HOWN.out hb2).alloc _) ⟨w2.heap.size, 0, none⟩ 1 1 [.slice A2 nd c2] rfl rfl one_cell (fun u hu => by simp at hu; subst hu; rfl) (by unfold maxLen; omega) (by omega) (by have := hb2.size; simp; omega) ?_))
      intro v' w3 hown' hgrow _ hat
      have hg2 : w.grownBy w2 v.ownBlock := grown_below _ hb2
      have hg3 : w.grownBy w3 v.ownBlock := grown_trans (grown_trans (q1 := none) hg2 (grown_below _ (below_new (Below.refl _ _) _)) (.inr fun g hg => by cases hg)) hgrow (.inl rfl)
      have hsz := hb2.size
      have hat' : v'.ownBlock = v.ownBlock ∨ ∀ g, v'.ownBlock = some g → w.heap.size ≤ g := by
        rcases hat with h | h
        · exact .inl h
        · right
          intro g hg
          rw [h] at hg
          simp at hg
          omega
      have HF : ApS w3 B0 v' (L ++ apL d []) := by
        rw [HE.out]
        refine ApS.snoc (w := w2.alloc _) hvl (fun j hjl => ?_) hown' HND.out (hN2.call (below_new (Below.refl _ _) _)) hgrow ?_
        · obtain ⟨A1, c1, e1, hN1⟩ := HVJ.out j hjl
          exact ⟨A1, c1, e1, (hN1.call hb2).call (below_new (Below.refl _ _) _)⟩
        · rcases hat with h | h
          · exact .inl h
          · right
            intro g hg
            rw [h] at hg
            have e := Option.some.inj hg
            rw [← e]; simp
      have HFF := hide HF
      clear HF hown' hgrow
      go_wp2
      go_ret
      exact ⟨v', rfl, HFF.out, hg3, hat'⟩
  | cons t r ih =>
    intro hr d hdl L hL w v hB0 hAp nd nl Ad Al cd cl hnd hnl hcl hd0 hD hR
    have hL' : L.length ≤ 1000 := Nat.le_trans (Nat.le_add_right _ _) hL
    by_cases h4 : 4 < d.length
    · have h4i : (4 : Int) < nd := by omega
      have HF : Hid (ApS w B0 v (L ++ apL d (t :: r))) := hide (by rw [apL_over h4, List.append_nil]; exact hAp)
      clear hAp hD hd0 hnd hR hL ih hr hdl
      go_enter Try.func71, Try.ntmps71
      go_wp2
      go_ret
      exact ⟨v, rfl, HF.out, grown_refl _ _, .inl rfl⟩
    · obtain ⟨i0s, hi0, hz0, hz1, hz2⟩ := info_parts info_int3
      obtain ⟨g, o, N, c, rfl, hne, hle, hH, hc⟩ := hR (by simp)
      have hR' : NumsAt w v.ownBlock (some ⟨g, o, none⟩) (t :: r) := fun _ => ⟨g, o, N, c, rfl, hne, hle, hH, hc⟩
      have q1 : w.cell? ⟨g, o, none⟩ = some (.int .i64 t) := by
        have h1 := hH.1 o (by simp at hle; omega)
        have h2 := hc 0 (by simp)
        rw [Nat.add_zero] at h2
        rw [h1]
        show some (Value.int .i64 (c o)) = _
        rw [h2]
        rfl
      have h4i : ¬ (4 : Int) < nd := by omega
      have ht := hr t (by simp)
      obtain ⟨m, hm⟩ : ∃ m, m = r.length := ⟨_, rfl⟩
      have hnl' : nl = m + 1 := by rw [hnl, hm]; rfl
      subst hnl'
      have hp2 : 2 ^ (t :: r).length = 2 ^ r.length + 2 ^ r.length := by rw [List.length_cons, Nat.pow_succ]; omega
      have hal1 := apL_len r (d ++ [t])
      have hr' : ∀ t ∈ r, 1 ≤ t ∧ t ≤ 17 := fun x hx => hr x (List.mem_cons_of_mem _ hx)
      have HAPL := hide (apL_cons h4 t r)
      have HCL := hide (fun wx (hB : Below w.heap.size w wx) => clone_nums wx d nd Ad cd _ hnd (by omega) hd0 (hD.call hB))
      have HD1 := hide (show nd + 1 = (d ++ [t]).length ∧ nints d ++ [Value.int .i64 t] = nints (d ++ [t]) from ⟨by simp [hnd], by simp [nints]⟩)
      have HQ := hide (aps_lt hAp)
      have HTL := hide (fun A hA => hR'.tail (A := A) hA)
      have HIH := hide (fun wx (hB : Below w.heap.size w wx) A3 c3 (hN3 : NumsAt wx v.ownBlock A3 (d ++ [t])) A4 (hA : 0 < r.length → A4 = some ⟨g, o + 1, none⟩) => (ih hr' (d ++ [t]) (by simp at hdl ⊢; omega) L (by omega) wx v (Nat.le_trans hB0 hB.size) (hAp.call hB) (nd + 1) m A3 A4 c3 (cl - 1) HD1.out.1 hm (by omega) (fun h => absurd h (by simp)) hN3 ((HTL.out A4 hA).call hB)).mono fun e w' (hh : ∃ v', e = .returned v' ∧ ApS w' B0 v' (L ++ apL (d ++ [t]) r) ∧ wx.grownBy w' v.ownBlock ∧ (v'.ownBlock = v.ownBlock ∨ ∀ g, v'.ownBlock = some g → wx.heap.size ≤ g)) =>
        (show ∃ v', e = .returned v' ∧ ApS w' B0 v' (L ++ apL (d ++ [t]) r) ∧ w.grownBy w' v.ownBlock ∧ (v'.ownBlock = v.ownBlock ∨ ∀ g, v'.ownBlock = some g → w.heap.size ≤ g) by
          obtain ⟨v', h1, h2, h3, h5⟩ := hh
          exact ⟨v', h1, h2, grown_trans (grown_below _ hB) h3 (.inl rfl), at_trans hB.size (.inl rfl) h5⟩))
      have HIH2 := hide (fun (x1 : World) (u1 : Value) (h1 : ApS x1 B0 u1 (L ++ apL (d ++ [t]) r)) (hs : w.heap.size ≤ x1.heap.size) (hD1 : NumsAt x1 u1.ownBlock Ad d) (hR1 : NumsAt x1 u1.ownBlock (some ⟨g, o, none⟩) (t :: r)) wx (hB : Below x1.heap.size x1 wx) A3 c3 (hN3 : NumsAt wx u1.ownBlock A3 (d ++ [t - 1, t - 1])) A4 (hA : 0 < r.length → A4 = some ⟨g, o + 1, none⟩) => (ih hr' (d ++ [t - 1, t - 1]) (by simp at hdl ⊢; omega) (L ++ apL (d ++ [t]) r) (by rw [List.length_append]; omega) wx u1 (Nat.le_trans hB0 (Nat.le_trans hs hB.size)) (h1.call hB) (nd + 2) m A3 A4 c3 (cl - 1) (by simp [hnd]) hm (by omega) (fun h => absurd h (by simp)) hN3 ((hR1.tail hA).call hB)).mono fun e w' (hh : ∃ v', e = .returned v' ∧ ApS w' B0 v' (L ++ apL (d ++ [t]) r ++ apL (d ++ [t - 1, t - 1]) r) ∧ wx.grownBy w' u1.ownBlock ∧ (v'.ownBlock = u1.ownBlock ∨ ∀ g, v'.ownBlock = some g → wx.heap.size ≤ g)) =>
        (show ∃ v', e = .returned v' ∧ ApS w' B0 v' (L ++ apL (d ++ [t]) r ++ apL (d ++ [t - 1, t - 1]) r) ∧ x1.grownBy w' u1.ownBlock ∧ (v'.ownBlock = u1.ownBlock ∨ ∀ g, v'.ownBlock = some g → x1.heap.size ≤ g) by
          obtain ⟨v', h1, h2, h3, h5⟩ := hh
          exact ⟨v', h1, h2, grown_trans (grown_below _ hB) h3 (.inl rfl), at_trans hB.size (.inl rfl) h5⟩))
      have HHD := hide hD
      have HHR := hide hR'
      have HND := hide hnd
      have HD0 := hide hd0
      have HFIN1 := hide (fun (h1 : ¬ 1 < t) wz vz (h : ApS wz B0 vz (L ++ apL (d ++ [t]) r)) => show ApS wz B0 vz (L ++ apL d (t :: r)) by rw [HAPL.out, if_neg h1, List.append_nil]; exact h)
      have HFIN2 := hide (fun (h1 : 1 < t) wz vz (h : ApS wz B0 vz (L ++ apL (d ++ [t]) r ++ apL (d ++ [t - 1, t - 1]) r)) => show ApS wz B0 vz (L ++ apL d (t :: r)) by rw [HAPL.out, if_pos h1, ← List.append_assoc]; exact h)
      have hzN := hH.2.2
      have hoN : o < N := by simp at hle; omega
      have hc1 : (1 : Int) ≤ (m : Int) + 1 := by omega
      have hdl' : d.length ≤ 4 := by omega
      have HM := hide hm
      have hnd4 : nd ≤ 4 := by omega
      clear hAp hD hR hR' hL ih hr hr' hd0 hnd h4 hal1 hp2 hne hle hH hc hdl HTL hnl hm
      go_enter Try.func71, Try.ntmps71
      go_wp2_with fail
      refine wp_region_noPanic ?_
      refine wp_region_held_drew (S := fun _ => True) (by kernel_rfl) ?hS1 (fun hHeld => ?_)
      case hS1 => exact trivial
      have hB : Below w.heap.size w (World.drew _) := Below.drew (Below.refl _ _)
      generalize hWW : World.drew _ = wx at *; clear hWW
      refine take_d (i := 0) (some 23) (v := ?_) rfl rfl (by kernel_rfl) (by kernel_rfl) (by kernel_rfl) (fun _ _ _ h => h) (Or.inl ⟨by rfl, ?_⟩) (by assumption) ?_
      rotate_left; (intro w hSw; clear hSw; go_simp; try with_reducible rfl)
      all_goals (try simp only [Act.put, List.setIfInBounds_toArray, List.set_cons_zero, List.set_cons_succ])
      refine take_d (i := 1) (some 24) (v := ?_) rfl rfl (by kernel_rfl) (by kernel_rfl) (by kernel_rfl) (fun _ _ _ h => h) (Or.inl ⟨by rfl, ?_⟩) (by assumption) ?_
      rotate_left; (intro w hSw; clear hSw; go_simp; try with_reducible rfl)
      all_goals (try simp only [Act.put, List.setIfInBounds_toArray, List.set_cons_zero, List.set_cons_succ])
      refine take_d (i := 3) (some 26) (v := ?_) rfl rfl (by kernel_rfl) (by kernel_rfl) (by kernel_rfl) (fun _ _ _ h => h) (Or.inl ⟨by rfl, ?_⟩) (by assumption) ?_
      rotate_left; (intro w hSw; clear hSw; go_simp; try with_reducible rfl)
      all_goals (try simp only [Act.put, List.setIfInBounds_toArray, List.set_cons_zero, List.set_cons_succ])
      refine take_d (i := 6) (some 29) (v := ?_) rfl rfl (by kernel_rfl) (by kernel_rfl) (by kernel_rfl) (fun _ _ _ h => h) (Or.inl ⟨by rfl, ?_⟩) (by assumption) ?_
      rotate_left; (intro w hSw; clear hSw; go_simp; try with_reducible rfl)
      all_goals (try simp only [Act.put, List.setIfInBounds_toArray, List.set_cons_zero, List.set_cons_succ])
      refine take_d (i := 7) (some 30) (v := ?_) rfl rfl (by kernel_rfl) (by kernel_rfl) (by kernel_rfl) (fun _ _ _ h => h) (Or.inl ⟨by rfl, ?_⟩) (by assumption) ?_
      rotate_left; (intro w hSw; clear hSw; go_simp; try with_reducible rfl)
      all_goals (try simp only [Act.put, List.setIfInBounds_toArray, List.set_cons_zero, List.set_cons_succ])
      generalize hA4 : (if cl = 1 then some (⟨g, o, none⟩ : Addr) else some ⟨g, o + 1, none⟩) = A4
      have HA4 : Hid (0 < r.length → A4 = some ⟨g, o + 1, none⟩) := hide (by intro h; rw [← hA4, if_neg (by have := HM.out; omega)])
      clear hA4
      refine wpAnyH_ready (rs := [2, 4]) (by kernel_rfl) (by simp) ?_
      refine AllReadyH.cons (o := _) rfl (fun K hK => ?_) ?_
      ·
        go_simp
        refine (HCL.out wx hB).mono ?_
        rintro e w2 ⟨v2, rfl, own, hb2⟩
        (try go_wp2_with fail)
        have hB' : Below w.heap.size w w2 := below_go hB hb2
        have own' := own_base own hB.size; clear own; have own := own'; clear own'
        clear hb2 hB; have hB := hB'; clear hB'
        generalize hWW : w2 = wx at *; clear hWW
        refine hK.out _ _ ?hS2 (fun hHeld => ?_)
        case hS2 => exact trivial
        clear hK K
        (try simp only [Act.put, List.setIfInBounds_toArray, List.set_cons_zero, List.set_cons_succ])
        refine wpAnyH_ready (rs := [4]) (by kernel_rfl) (by simp) ?_
        refine AllReadyH.cons (o := _) rfl (fun K hK => ?_) ?_
        ·
          go_simp
          generalize hW : World.alloc _ _ = w2
          have hB' : Below w.heap.size w w2 := by (rw [← hW]; exact below_new hB _)
          have jn := Has.newat (n := 1) hW rfl
          have own' := own_at hW own; clear own; have own := own'; clear own'
          clear hW hB; have hB := hB'; clear hB'
          generalize hS : (World.heap wx).size = E1 at *; clear hS; generalize hWW : w2 = wx at *; clear hWW
          refine hK.out _ _ ?hS3 (fun hHeld => ?_)
          case hS3 => exact trivial
          clear hK K
          (try simp only [Act.put, List.setIfInBounds_toArray, List.set_cons_zero, List.set_cons_succ])
          refine wpAnyH_ready (rs := [5]) (by kernel_rfl) (by simp) ?_
          refine AllReadyH.cons (o := _) rfl (fun K hK => ?_) ?_
          ·
            rw [if_pos (by rfl)]
            refine wp_append_own _ _ _ 54 (by rfl) w.heap.size 3 i0s (.int .i64 0) 1 8 Try.underlying54 hi0 hz0 hz1 hz2 rfl (by decide) _ _ _ (by rfl) own ⟨E1, 0, none⟩ 1 1 [.int .i64 t] (by rfl) rfl (nums_one jn) (fun u hu => by simp at hu; subst hu; rfl) (by unfold maxLen; omega) (by omega) hB.size ?_
            intro v3 w2 hown' hgrow _
            change K (Act.put _ (some 28) _) _
            have hB' := hB.grown hgrow hB.size (fun q hq => (own.lt q hq).1)
            clear own hgrow jn; have own := hown'; clear hown'
            clear hB; have hB := hB'; clear hB'
            generalize hWW : w2 = wx at *; clear hWW
            obtain ⟨A3, c3, rfl, hN3⟩ := own_nums own HD1.out HQ.out
            clear own
            refine hK.out _ _ ?hS4 (fun hHeld => ?_)
            case hS4 => exact trivial
            clear hK K
            (try simp only [Act.put, List.setIfInBounds_toArray, List.set_cons_zero, List.set_cons_succ])
            refine wpAnyH_ready (rs := [8]) (by kernel_rfl) (by simp) ?_
            refine AllReadyH.cons (o := _) rfl (fun K hK => ?_) ?_
            ·
              go_simp
              refine (HIH.out wx hB A3 c3 hN3 A4 HA4.out).mono ?_
              rintro e w2 ⟨v', rfl, hAp', hg2, hq2⟩
              (try go_wp2_with fail)
              clear hN3 hB
              generalize hWW : w2 = wx at *; clear hWW
              refine hK.out _ _ ?hS5 (fun hHeld => ?_)
              case hS5 => exact trivial
              clear hK K
              (try simp only [Act.put, List.setIfInBounds_toArray, List.set_cons_zero, List.set_cons_succ])
              refine take_d (i := 9) (some 0) (v := ?_) rfl rfl (by kernel_rfl) (by kernel_rfl) (by kernel_rfl) (fun _ _ _ h => h) (Or.inl ⟨by rfl, ?_⟩) (by assumption) ?_
              rotate_left; (intro w hSw; clear hSw; go_simp; try with_reducible rfl)
              all_goals (try simp only [Act.put, List.setIfInBounds_toArray, List.set_cons_zero])
              refine wpAnyH_done (by kernel_rfl) ?_ _
              (try refine NoPanic.normal ?_)
              have hAp1 := hAp'
              generalize hv1 : v' = u1 at *
              clear hv1
              have HG1 := hide hg2
              have HQ1 := hide hq2
              have HAP1 := hide hAp1
              clear hAp' hg2 hq2 hAp1
              generalize hwx : wx = x1 at *
              clear hwx
              by_cases h1t : 1 < t
              · go_wp2_with fail
                have s1 : IntKind.i64.wrap (t - 1) = t - 1 := IntWalk.i64_in _ (by omega)
                have HDX := hide (HHD.out.next HG1.out HQ1.out)
                have HRX := hide (HHR.out.next HG1.out HQ1.out)
                have HIH' := hide (HIH2.out x1 u1 HAP1.out HG1.out.size HDX.out HRX.out)
                have HCL' := hide (fun wx (hB : Below x1.heap.size x1 wx) => clone_nums wx d nd Ad cd _ HND.out (by omega) HD0.out (HDX.out.call hB))
                have HD1' := hide (show nd + 2 = (d ++ [t - 1, t - 1]).length ∧ nints d ++ [Value.int .i64 (t - 1), .int .i64 (t - 1)] = nints (d ++ [t - 1, t - 1]) from ⟨by simp [HND.out], by simp [nints]⟩)
                have HQ' := hide (aps_lt HAP1.out)
                have HG2 := hide (fun wz (h : x1.grownBy wz u1.ownBlock) => grown_trans HG1.out h HQ1.out)
                have HQ2 := hide (fun q (h : q = u1.ownBlock ∨ ∀ g, q = some g → x1.heap.size ≤ g) => at_trans HG1.out.size HQ1.out h)
                have HFX := hide (HFIN2.out h1t)
                clear HIH HCL HD1 HQ HIH2 HFIN2
                have HIH := HIH'; have HCL := HCL'; have HD1 := HD1'; have HQ := HQ'; have HFIN2 := HFX
                clear HIH' HCL' HD1' HQ' HFX
                refine wp_region_noPanic ?_
                refine wp_region_held_drew (S := fun _ => True) (by kernel_rfl) ?hS6 (fun hHeld => ?_)
                case hS6 => exact trivial
                have hB : Below x1.heap.size x1 (World.drew _) := Below.drew (Below.refl _ _)
                generalize hWW : World.drew _ = wx at *; clear hWW
                refine take_d (i := 0) (some 34) (v := ?_) rfl rfl (by kernel_rfl) (by kernel_rfl) (by kernel_rfl) (fun _ _ _ h => h) (Or.inl ⟨by rfl, ?_⟩) (by assumption) ?_
                rotate_left; (intro w hSw; clear hSw; go_simp; try with_reducible rfl)
                all_goals (try simp only [Act.put, List.setIfInBounds_toArray, List.set_cons_zero, List.set_cons_succ])
                refine take_d (i := 1) (some 35) (v := ?_) rfl rfl (by kernel_rfl) (by kernel_rfl) (by kernel_rfl) (fun _ _ _ h => h) (Or.inl ⟨by rfl, ?_⟩) (by assumption) ?_
                rotate_left; (intro w hSw; clear hSw; go_simp; try with_reducible rfl)
                all_goals (try simp only [Act.put, List.setIfInBounds_toArray, List.set_cons_zero, List.set_cons_succ])
                refine take_d (i := 3) (some 37) (v := ?_) rfl rfl (by kernel_rfl) (by kernel_rfl) (by kernel_rfl) (fun _ _ _ h => h) (Or.inl ⟨by rfl, ?_⟩) (by assumption) ?_
                rotate_left; (intro w hSw; clear hSw; go_simp; try with_reducible rfl)
                all_goals (try simp only [Act.put, List.setIfInBounds_toArray, List.set_cons_zero, List.set_cons_succ])
                refine take_d (i := 4) (some 38) (v := ?_) rfl rfl (by kernel_rfl) (by kernel_rfl) (by kernel_rfl) (fun _ _ _ h => h) (Or.inl ⟨by rfl, ?_⟩) (by assumption) ?_
                rotate_left; (intro w hSw; clear hSw; go_simp; try with_reducible rfl)
                all_goals (try simp only [Act.put, List.setIfInBounds_toArray, List.set_cons_zero, List.set_cons_succ])
                refine take_d (i := 5) (some 39) (v := ?_) rfl rfl (by kernel_rfl) (by kernel_rfl) (by kernel_rfl) (fun _ _ _ h => h) (Or.inl ⟨by rfl, ?_⟩) (by assumption) ?_
                rotate_left; (intro w hSw; clear hSw; go_simp; try with_reducible rfl)
                all_goals (try simp only [Act.put, List.setIfInBounds_toArray, List.set_cons_zero, List.set_cons_succ])
                refine take_d (i := 6) (some 40) (v := ?_) rfl rfl (by kernel_rfl) (by kernel_rfl) (by kernel_rfl) (fun _ _ _ h => h) (Or.inl ⟨by rfl, ?_⟩) (by assumption) ?_
                rotate_left; (intro w hSw; clear hSw; go_simp; try with_reducible rfl)
                all_goals (try simp only [Act.put, List.setIfInBounds_toArray, List.set_cons_zero, List.set_cons_succ])
                refine take_d (i := 9) (some 43) (v := ?_) rfl rfl (by kernel_rfl) (by kernel_rfl) (by kernel_rfl) (fun _ _ _ h => h) (Or.inl ⟨by rfl, ?_⟩) (by assumption) ?_
                rotate_left; (intro w hSw; clear hSw; go_simp; try with_reducible rfl)
                all_goals (try simp only [Act.put, List.setIfInBounds_toArray, List.set_cons_zero, List.set_cons_succ])
                refine take_d (i := 10) (some 44) (v := ?_) rfl rfl (by kernel_rfl) (by kernel_rfl) (by kernel_rfl) (fun _ _ _ h => h) (Or.inl ⟨by rfl, ?_⟩) (by assumption) ?_
                rotate_left; (intro w hSw; clear hSw; go_simp; try with_reducible rfl)
                all_goals (try simp only [Act.put, List.setIfInBounds_toArray, List.set_cons_zero, List.set_cons_succ])
                generalize hA4 : (if cl = 1 then some (⟨g, o, none⟩ : Addr) else some ⟨g, o + 1, none⟩) = A4
                have HA4 : Hid (0 < r.length → A4 = some ⟨g, o + 1, none⟩) := hide (by intro h; rw [← hA4, if_neg (by have := HM.out; omega)])
                clear hA4
                refine wpAnyH_ready (rs := [2, 7]) (by kernel_rfl) (by simp) ?_
                refine AllReadyH.cons (o := _) rfl (fun K hK => ?_) ?_
                ·
                  go_simp
                  refine (HCL.out wx hB).mono ?_
                  rintro e w2 ⟨v2, rfl, own, hb2⟩
                  (try go_wp2_with fail)
                  have hB' : Below x1.heap.size x1 w2 := below_go hB hb2
                  have own' := own_base own hB.size; clear own; have own := own'; clear own'
                  clear hb2 hB; have hB := hB'; clear hB'
                  generalize hWW : w2 = wx at *; clear hWW
                  refine hK.out _ _ ?hS7 (fun hHeld => ?_)
                  case hS7 => exact trivial
                  clear hK K
                  (try simp only [Act.put, List.setIfInBounds_toArray, List.set_cons_zero, List.set_cons_succ])
                  refine wpAnyH_ready (rs := [7]) (by kernel_rfl) (by simp) ?_
                  refine AllReadyH.cons (o := _) rfl (fun K hK => ?_) ?_
                  ·
                    go_simp
                    generalize hW : World.alloc _ _ = w2
                    have hB' : Below x1.heap.size x1 w2 := by (rw [← hW]; exact below_new hB _)
                    have jn := Has.newat (n := 2) hW rfl
                    have own' := own_at hW own; clear own; have own := own'; clear own'
                    clear hW hB; have hB := hB'; clear hB'
                    generalize hS : (World.heap wx).size = E1 at *; clear hS; generalize hWW : w2 = wx at *; clear hWW
                    refine hK.out _ _ ?hS8 (fun hHeld => ?_)
                    case hS8 => exact trivial
                    clear hK K
                    (try simp only [Act.put, List.setIfInBounds_toArray, List.set_cons_zero, List.set_cons_succ])
                    refine wpAnyH_ready (rs := [8]) (by kernel_rfl) (by simp) ?_
                    refine AllReadyH.cons (o := _) rfl (fun K hK => ?_) ?_
                    ·
                      rw [if_pos (by rfl)]
                      refine wp_append_own _ _ _ 54 (by rfl) x1.heap.size 3 i0s (.int .i64 0) 1 8 Try.underlying54 hi0 hz0 hz1 hz2 rfl (by decide) _ _ _ (by rfl) own ⟨E1, 0, none⟩ 2 2 [.int .i64 (t - 1), .int .i64 (t - 1)] (by rfl) rfl (nums_two jn) (fun u hu => by simp at hu; rcases hu with rfl | rfl <;> rfl) (by unfold maxLen; omega) (by omega) hB.size ?_
                      intro v3 w2 hown' hgrow _
                      change K (Act.put _ (some 42) _) _
                      have hB' := hB.grown hgrow hB.size (fun q hq => (own.lt q hq).1)
                      clear own hgrow jn; have own := hown'; clear hown'
                      clear hB; have hB := hB'; clear hB'
                      generalize hWW : w2 = wx at *; clear hWW
                      obtain ⟨A3, c3, rfl, hN3⟩ := own_nums own HD1.out HQ.out
                      clear own
                      refine hK.out _ _ ?hS9 (fun hHeld => ?_)
                      case hS9 => exact trivial
                      clear hK K
                      (try simp only [Act.put, List.setIfInBounds_toArray, List.set_cons_zero, List.set_cons_succ])
                      refine wpAnyH_ready (rs := [11]) (by kernel_rfl) (by simp) ?_
                      refine AllReadyH.cons (o := _) rfl (fun K hK => ?_) ?_
                      ·
                        go_simp
                        refine (HIH.out wx hB A3 c3 hN3 A4 HA4.out).mono ?_
                        rintro e w2 ⟨v', rfl, hAp', hg2, hq2⟩
                        (try go_wp2_with fail)
                        clear hN3 hB
                        generalize hWW : w2 = wx at *; clear hWW
                        refine hK.out _ _ ?hS10 (fun hHeld => ?_)
                        case hS10 => exact trivial
                        clear hK K
                        (try simp only [Act.put, List.setIfInBounds_toArray, List.set_cons_zero, List.set_cons_succ])
                        refine take_d (i := 12) (some 0) (v := ?_) rfl rfl (by kernel_rfl) (by kernel_rfl) (by kernel_rfl) (fun _ _ _ h => h) (Or.inl ⟨by rfl, ?_⟩) (by assumption) ?_
                        rotate_left; (intro w hSw; clear hSw; go_simp; try with_reducible rfl)
                        all_goals (try simp only [Act.put, List.setIfInBounds_toArray, List.set_cons_zero])
                        refine wpAnyH_done (by kernel_rfl) ?_ _
                        (try refine NoPanic.normal ?_)
                        go_wp2
                        go_ret
                        exact ⟨v', rfl, HFIN2.out _ _ hAp', HG2.out _ hg2, HQ2.out _ hq2⟩
                      exact AllReadyH.nil
                    exact AllReadyH.nil
                  exact AllReadyH.nil
                refine AllReadyH.cons (o := _) rfl (fun K hK => ?_) ?_
                ·
                  go_simp
                  generalize hW : World.alloc _ _ = w2
                  have hB' : Below x1.heap.size x1 w2 := by (rw [← hW]; exact below_new hB _)
                  have jn := Has.newat (n := 2) hW rfl
                  clear hW hB; have hB := hB'; clear hB'
                  generalize hS : (World.heap wx).size = E1 at *; clear hS; generalize hWW : w2 = wx at *; clear hWW
                  refine hK.out _ _ ?hS11 (fun hHeld => ?_)
                  case hS11 => exact trivial
                  clear hK K
                  (try simp only [Act.put, List.setIfInBounds_toArray, List.set_cons_zero, List.set_cons_succ])
                  refine wpAnyH_ready (rs := [2]) (by kernel_rfl) (by simp) ?_
                  refine AllReadyH.cons (o := _) rfl (fun K hK => ?_) ?_
                  ·
                    go_simp
                    refine (HCL.out wx hB).mono ?_
                    rintro e w2 ⟨v2, rfl, own, hb2⟩
                    (try go_wp2_with fail)
                    have hB' : Below x1.heap.size x1 w2 := below_go hB hb2
                    have jn' := Has.call jn hb2; clear jn; have jn := jn'; clear jn'
                    have own' := own_base own hB.size; clear own; have own := own'; clear own'
                    clear hb2 hB; have hB := hB'; clear hB'
                    generalize hWW : w2 = wx at *; clear hWW
                    refine hK.out _ _ ?hS12 (fun hHeld => ?_)
                    case hS12 => exact trivial
                    clear hK K
                    (try simp only [Act.put, List.setIfInBounds_toArray, List.set_cons_zero, List.set_cons_succ])
                    refine wpAnyH_ready (rs := [8]) (by kernel_rfl) (by simp) ?_
                    refine AllReadyH.cons (o := _) rfl (fun K hK => ?_) ?_
                    ·
                      rw [if_pos (by rfl)]
                      refine wp_append_own _ _ _ 54 (by rfl) x1.heap.size 3 i0s (.int .i64 0) 1 8 Try.underlying54 hi0 hz0 hz1 hz2 rfl (by decide) _ _ _ (by rfl) own ⟨E1, 0, none⟩ 2 2 [.int .i64 (t - 1), .int .i64 (t - 1)] (by rfl) rfl (nums_two jn) (fun u hu => by simp at hu; rcases hu with rfl | rfl <;> rfl) (by unfold maxLen; omega) (by omega) hB.size ?_
                      intro v3 w2 hown' hgrow _
                      change K (Act.put _ (some 42) _) _
                      have hB' := hB.grown hgrow hB.size (fun q hq => (own.lt q hq).1)
                      clear own hgrow jn; have own := hown'; clear hown'
                      clear hB; have hB := hB'; clear hB'
                      generalize hWW : w2 = wx at *; clear hWW
                      obtain ⟨A3, c3, rfl, hN3⟩ := own_nums own HD1.out HQ.out
                      clear own
                      refine hK.out _ _ ?hS13 (fun hHeld => ?_)
                      case hS13 => exact trivial
                      clear hK K
                      (try simp only [Act.put, List.setIfInBounds_toArray, List.set_cons_zero, List.set_cons_succ])
                      refine wpAnyH_ready (rs := [11]) (by kernel_rfl) (by simp) ?_
                      refine AllReadyH.cons (o := _) rfl (fun K hK => ?_) ?_
                      ·
                        go_simp
                        refine (HIH.out wx hB A3 c3 hN3 A4 HA4.out).mono ?_
                        rintro e w2 ⟨v', rfl, hAp', hg2, hq2⟩
                        (try go_wp2_with fail)
                        clear hN3 hB
                        generalize hWW : w2 = wx at *; clear hWW
                        refine hK.out _ _ ?hS14 (fun hHeld => ?_)
                        case hS14 => exact trivial
                        clear hK K
                        (try simp only [Act.put, List.setIfInBounds_toArray, List.set_cons_zero, List.set_cons_succ])
                        refine take_d (i := 12) (some 0) (v := ?_) rfl rfl (by kernel_rfl) (by kernel_rfl) (by kernel_rfl) (fun _ _ _ h => h) (Or.inl ⟨by rfl, ?_⟩) (by assumption) ?_
                        rotate_left; (intro w hSw; clear hSw; go_simp; try with_reducible rfl)
                        all_goals (try simp only [Act.put, List.setIfInBounds_toArray, List.set_cons_zero])
                        refine wpAnyH_done (by kernel_rfl) ?_ _
                        (try refine NoPanic.normal ?_)
                        go_wp2
                        go_ret
                        exact ⟨v', rfl, HFIN2.out _ _ hAp', HG2.out _ hg2, HQ2.out _ hq2⟩
                      exact AllReadyH.nil
                    exact AllReadyH.nil
                  exact AllReadyH.nil
                exact AllReadyH.nil
              · go_wp2
                go_ret
                exact ⟨u1, rfl, HFIN1.out h1t _ _ HAP1.out, HG1.out, HQ1.out⟩
            exact AllReadyH.nil
          exact AllReadyH.nil
        exact AllReadyH.nil
      refine AllReadyH.cons (o := _) rfl (fun K hK => ?_) ?_
      ·
        go_simp
        generalize hW : World.alloc _ _ = w2
        have hB' : Below w.heap.size w w2 := by (rw [← hW]; exact below_new hB _)
        have jn := Has.newat (n := 1) hW rfl
        clear hW hB; have hB := hB'; clear hB'
        generalize hS : (World.heap wx).size = E1 at *; clear hS; generalize hWW : w2 = wx at *; clear hWW
        refine hK.out _ _ ?hS15 (fun hHeld => ?_)
        case hS15 => exact trivial
        clear hK K
        (try simp only [Act.put, List.setIfInBounds_toArray, List.set_cons_zero, List.set_cons_succ])
        refine wpAnyH_ready (rs := [2]) (by kernel_rfl) (by simp) ?_
        refine AllReadyH.cons (o := _) rfl (fun K hK => ?_) ?_
        ·
          go_simp
          refine (HCL.out wx hB).mono ?_
          rintro e w2 ⟨v2, rfl, own, hb2⟩
          (try go_wp2_with fail)
          have hB' : Below w.heap.size w w2 := below_go hB hb2
          have jn' := Has.call jn hb2; clear jn; have jn := jn'; clear jn'
          have own' := own_base own hB.size; clear own; have own := own'; clear own'
          clear hb2 hB; have hB := hB'; clear hB'
          generalize hWW : w2 = wx at *; clear hWW
          refine hK.out _ _ ?hS16 (fun hHeld => ?_)
          case hS16 => exact trivial
          clear hK K
          (try simp only [Act.put, List.setIfInBounds_toArray, List.set_cons_zero, List.set_cons_succ])
          refine wpAnyH_ready (rs := [5]) (by kernel_rfl) (by simp) ?_
          refine AllReadyH.cons (o := _) rfl (fun K hK => ?_) ?_
          ·
            rw [if_pos (by rfl)]
            refine wp_append_own _ _ _ 54 (by rfl) w.heap.size 3 i0s (.int .i64 0) 1 8 Try.underlying54 hi0 hz0 hz1 hz2 rfl (by decide) _ _ _ (by rfl) own ⟨E1, 0, none⟩ 1 1 [.int .i64 t] (by rfl) rfl (nums_one jn) (fun u hu => by simp at hu; subst hu; rfl) (by unfold maxLen; omega) (by omega) hB.size ?_
            intro v3 w2 hown' hgrow _
            change K (Act.put _ (some 28) _) _
            have hB' := hB.grown hgrow hB.size (fun q hq => (own.lt q hq).1)
            clear own hgrow jn; have own := hown'; clear hown'
            clear hB; have hB := hB'; clear hB'
            generalize hWW : w2 = wx at *; clear hWW
            obtain ⟨A3, c3, rfl, hN3⟩ := own_nums own HD1.out HQ.out
            clear own
            refine hK.out _ _ ?hS17 (fun hHeld => ?_)
            case hS17 => exact trivial
            clear hK K
            (try simp only [Act.put, List.setIfInBounds_toArray, List.set_cons_zero, List.set_cons_succ])
            refine wpAnyH_ready (rs := [8]) (by kernel_rfl) (by simp) ?_
            refine AllReadyH.cons (o := _) rfl (fun K hK => ?_) ?_
            ·
              go_simp
              refine (HIH.out wx hB A3 c3 hN3 A4 HA4.out).mono ?_
              rintro e w2 ⟨v', rfl, hAp', hg2, hq2⟩
              (try go_wp2_with fail)
              clear hN3 hB
              generalize hWW : w2 = wx at *; clear hWW
              refine hK.out _ _ ?hS18 (fun hHeld => ?_)
              case hS18 => exact trivial
              clear hK K
              (try simp only [Act.put, List.setIfInBounds_toArray, List.set_cons_zero, List.set_cons_succ])
              refine take_d (i := 9) (some 0) (v := ?_) rfl rfl (by kernel_rfl) (by kernel_rfl) (by kernel_rfl) (fun _ _ _ h => h) (Or.inl ⟨by rfl, ?_⟩) (by assumption) ?_
              rotate_left; (intro w hSw; clear hSw; go_simp; try with_reducible rfl)
              all_goals (try simp only [Act.put, List.setIfInBounds_toArray, List.set_cons_zero])
              refine wpAnyH_done (by kernel_rfl) ?_ _
              (try refine NoPanic.normal ?_)
              have hAp1 := hAp'
              generalize hv1 : v' = u1 at *
              clear hv1
              have HG1 := hide hg2
              have HQ1 := hide hq2
              have HAP1 := hide hAp1
              clear hAp' hg2 hq2 hAp1
              generalize hwx : wx = x1 at *
              clear hwx
              by_cases h1t : 1 < t
              · go_wp2_with fail
                have s1 : IntKind.i64.wrap (t - 1) = t - 1 := IntWalk.i64_in _ (by omega)
                have HDX := hide (HHD.out.next HG1.out HQ1.out)
                have HRX := hide (HHR.out.next HG1.out HQ1.out)
                have HIH' := hide (HIH2.out x1 u1 HAP1.out HG1.out.size HDX.out HRX.out)
                have HCL' := hide (fun wx (hB : Below x1.heap.size x1 wx) => clone_nums wx d nd Ad cd _ HND.out (by omega) HD0.out (HDX.out.call hB))
                have HD1' := hide (show nd + 2 = (d ++ [t - 1, t - 1]).length ∧ nints d ++ [Value.int .i64 (t - 1), .int .i64 (t - 1)] = nints (d ++ [t - 1, t - 1]) from ⟨by simp [HND.out], by simp [nints]⟩)
                have HQ' := hide (aps_lt HAP1.out)
                have HG2 := hide (fun wz (h : x1.grownBy wz u1.ownBlock) => grown_trans HG1.out h HQ1.out)
                have HQ2 := hide (fun q (h : q = u1.ownBlock ∨ ∀ g, q = some g → x1.heap.size ≤ g) => at_trans HG1.out.size HQ1.out h)
                have HFX := hide (HFIN2.out h1t)
                clear HIH HCL HD1 HQ HIH2 HFIN2
                have HIH := HIH'; have HCL := HCL'; have HD1 := HD1'; have HQ := HQ'; have HFIN2 := HFX
                clear HIH' HCL' HD1' HQ' HFX
                refine wp_region_noPanic ?_
                refine wp_region_held_drew (S := fun _ => True) (by kernel_rfl) ?hS19 (fun hHeld => ?_)
                case hS19 => exact trivial
                have hB : Below x1.heap.size x1 (World.drew _) := Below.drew (Below.refl _ _)
                generalize hWW : World.drew _ = wx at *; clear hWW
                refine take_d (i := 0) (some 34) (v := ?_) rfl rfl (by kernel_rfl) (by kernel_rfl) (by kernel_rfl) (fun _ _ _ h => h) (Or.inl ⟨by rfl, ?_⟩) (by assumption) ?_
                rotate_left; (intro w hSw; clear hSw; go_simp; try with_reducible rfl)
                all_goals (try simp only [Act.put, List.setIfInBounds_toArray, List.set_cons_zero, List.set_cons_succ])
                refine take_d (i := 1) (some 35) (v := ?_) rfl rfl (by kernel_rfl) (by kernel_rfl) (by kernel_rfl) (fun _ _ _ h => h) (Or.inl ⟨by rfl, ?_⟩) (by assumption) ?_
                rotate_left; (intro w hSw; clear hSw; go_simp; try with_reducible rfl)
                all_goals (try simp only [Act.put, List.setIfInBounds_toArray, List.set_cons_zero, List.set_cons_succ])
                refine take_d (i := 3) (some 37) (v := ?_) rfl rfl (by kernel_rfl) (by kernel_rfl) (by kernel_rfl) (fun _ _ _ h => h) (Or.inl ⟨by rfl, ?_⟩) (by assumption) ?_
                rotate_left; (intro w hSw; clear hSw; go_simp; try with_reducible rfl)
                all_goals (try simp only [Act.put, List.setIfInBounds_toArray, List.set_cons_zero, List.set_cons_succ])
                refine take_d (i := 4) (some 38) (v := ?_) rfl rfl (by kernel_rfl) (by kernel_rfl) (by kernel_rfl) (fun _ _ _ h => h) (Or.inl ⟨by rfl, ?_⟩) (by assumption) ?_
                rotate_left; (intro w hSw; clear hSw; go_simp; try with_reducible rfl)
                all_goals (try simp only [Act.put, List.setIfInBounds_toArray, List.set_cons_zero, List.set_cons_succ])
                refine take_d (i := 5) (some 39) (v := ?_) rfl rfl (by kernel_rfl) (by kernel_rfl) (by kernel_rfl) (fun _ _ _ h => h) (Or.inl ⟨by rfl, ?_⟩) (by assumption) ?_
                rotate_left; (intro w hSw; clear hSw; go_simp; try with_reducible rfl)
                all_goals (try simp only [Act.put, List.setIfInBounds_toArray, List.set_cons_zero, List.set_cons_succ])
                refine take_d (i := 6) (some 40) (v := ?_) rfl rfl (by kernel_rfl) (by kernel_rfl) (by kernel_rfl) (fun _ _ _ h => h) (Or.inl ⟨by rfl, ?_⟩) (by assumption) ?_
                rotate_left; (intro w hSw; clear hSw; go_simp; try with_reducible rfl)
                all_goals (try simp only [Act.put, List.setIfInBounds_toArray, List.set_cons_zero, List.set_cons_succ])
                refine take_d (i := 9) (some 43) (v := ?_) rfl rfl (by kernel_rfl) (by kernel_rfl) (by kernel_rfl) (fun _ _ _ h => h) (Or.inl ⟨by rfl, ?_⟩) (by assumption) ?_
                rotate_left; (intro w hSw; clear hSw; go_simp; try with_reducible rfl)
                all_goals (try simp only [Act.put, List.setIfInBounds_toArray, List.set_cons_zero, List.set_cons_succ])
                refine take_d (i := 10) (some 44) (v := ?_) rfl rfl (by kernel_rfl) (by kernel_rfl) (by kernel_rfl) (fun _ _ _ h => h) (Or.inl ⟨by rfl, ?_⟩) (by assumption) ?_
                rotate_left; (intro w hSw; clear hSw; go_simp; try with_reducible rfl)
                all_goals (try simp only [Act.put, List.setIfInBounds_toArray, List.set_cons_zero, List.set_cons_succ])
                generalize hA4 : (if cl = 1 then some (⟨g, o, none⟩ : Addr) else some ⟨g, o + 1, none⟩) = A4
                have HA4 : Hid (0 < r.length → A4 = some ⟨g, o + 1, none⟩) := hide (by intro h; rw [← hA4, if_neg (by have := HM.out; omega)])
                clear hA4
                refine wpAnyH_ready (rs := [2, 7]) (by kernel_rfl) (by simp) ?_
                refine AllReadyH.cons (o := _) rfl (fun K hK => ?_) ?_
                ·
                  go_simp
                  refine (HCL.out wx hB).mono ?_
                  rintro e w2 ⟨v2, rfl, own, hb2⟩
                  (try go_wp2_with fail)
                  have hB' : Below x1.heap.size x1 w2 := below_go hB hb2
                  have own' := own_base own hB.size; clear own; have own := own'; clear own'
                  clear hb2 hB; have hB := hB'; clear hB'
                  generalize hWW : w2 = wx at *; clear hWW
                  refine hK.out _ _ ?hS20 (fun hHeld => ?_)
                  case hS20 => exact trivial
                  clear hK K
                  (try simp only [Act.put, List.setIfInBounds_toArray, List.set_cons_zero, List.set_cons_succ])
                  refine wpAnyH_ready (rs := [7]) (by kernel_rfl) (by simp) ?_
                  refine AllReadyH.cons (o := _) rfl (fun K hK => ?_) ?_
                  ·
                    go_simp
                    generalize hW : World.alloc _ _ = w2
                    have hB' : Below x1.heap.size x1 w2 := by (rw [← hW]; exact below_new hB _)
                    have jn := Has.newat (n := 2) hW rfl
                    have own' := own_at hW own; clear own; have own := own'; clear own'
                    clear hW hB; have hB := hB'; clear hB'
                    generalize hS : (World.heap wx).size = E1 at *; clear hS; generalize hWW : w2 = wx at *; clear hWW
                    refine hK.out _ _ ?hS21 (fun hHeld => ?_)
                    case hS21 => exact trivial
                    clear hK K
                    (try simp only [Act.put, List.setIfInBounds_toArray, List.set_cons_zero, List.set_cons_succ])
                    refine wpAnyH_ready (rs := [8]) (by kernel_rfl) (by simp) ?_
                    refine AllReadyH.cons (o := _) rfl (fun K hK => ?_) ?_
                    ·
                      rw [if_pos (by rfl)]
                      refine wp_append_own _ _ _ 54 (by rfl) x1.heap.size 3 i0s (.int .i64 0) 1 8 Try.underlying54 hi0 hz0 hz1 hz2 rfl (by decide) _ _ _ (by rfl) own ⟨E1, 0, none⟩ 2 2 [.int .i64 (t - 1), .int .i64 (t - 1)] (by rfl) rfl (nums_two jn) (fun u hu => by simp at hu; rcases hu with rfl | rfl <;> rfl) (by unfold maxLen; omega) (by omega) hB.size ?_
                      intro v3 w2 hown' hgrow _
                      change K (Act.put _ (some 42) _) _
                      have hB' := hB.grown hgrow hB.size (fun q hq => (own.lt q hq).1)
                      clear own hgrow jn; have own := hown'; clear hown'
                      clear hB; have hB := hB'; clear hB'
                      generalize hWW : w2 = wx at *; clear hWW
                      obtain ⟨A3, c3, rfl, hN3⟩ := own_nums own HD1.out HQ.out
                      clear own
                      refine hK.out _ _ ?hS22 (fun hHeld => ?_)
                      case hS22 => exact trivial
                      clear hK K
                      (try simp only [Act.put, List.setIfInBounds_toArray, List.set_cons_zero, List.set_cons_succ])
                      refine wpAnyH_ready (rs := [11]) (by kernel_rfl) (by simp) ?_
                      refine AllReadyH.cons (o := _) rfl (fun K hK => ?_) ?_
                      ·
                        go_simp
                        refine (HIH.out wx hB A3 c3 hN3 A4 HA4.out).mono ?_
                        rintro e w2 ⟨v', rfl, hAp', hg2, hq2⟩
                        (try go_wp2_with fail)
                        clear hN3 hB
                        generalize hWW : w2 = wx at *; clear hWW
                        refine hK.out _ _ ?hS23 (fun hHeld => ?_)
                        case hS23 => exact trivial
                        clear hK K
                        (try simp only [Act.put, List.setIfInBounds_toArray, List.set_cons_zero, List.set_cons_succ])
                        refine take_d (i := 12) (some 0) (v := ?_) rfl rfl (by kernel_rfl) (by kernel_rfl) (by kernel_rfl) (fun _ _ _ h => h) (Or.inl ⟨by rfl, ?_⟩) (by assumption) ?_
                        rotate_left; (intro w hSw; clear hSw; go_simp; try with_reducible rfl)
                        all_goals (try simp only [Act.put, List.setIfInBounds_toArray, List.set_cons_zero])
                        refine wpAnyH_done (by kernel_rfl) ?_ _
                        (try refine NoPanic.normal ?_)
                        go_wp2
                        go_ret
                        exact ⟨v', rfl, HFIN2.out _ _ hAp', HG2.out _ hg2, HQ2.out _ hq2⟩
                      exact AllReadyH.nil
                    exact AllReadyH.nil
                  exact AllReadyH.nil
                refine AllReadyH.cons (o := _) rfl (fun K hK => ?_) ?_
                ·
                  go_simp
                  generalize hW : World.alloc _ _ = w2
                  have hB' : Below x1.heap.size x1 w2 := by (rw [← hW]; exact below_new hB _)
                  have jn := Has.newat (n := 2) hW rfl
                  clear hW hB; have hB := hB'; clear hB'
                  generalize hS : (World.heap wx).size = E1 at *; clear hS; generalize hWW : w2 = wx at *; clear hWW
                  refine hK.out _ _ ?hS24 (fun hHeld => ?_)
                  case hS24 => exact trivial
                  clear hK K
                  (try simp only [Act.put, List.setIfInBounds_toArray, List.set_cons_zero, List.set_cons_succ])
                  refine wpAnyH_ready (rs := [2]) (by kernel_rfl) (by simp) ?_
                  refine AllReadyH.cons (o := _) rfl (fun K hK => ?_) ?_
                  ·
                    go_simp
                    refine (HCL.out wx hB).mono ?_
                    rintro e w2 ⟨v2, rfl, own, hb2⟩
                    (try go_wp2_with fail)
                    have hB' : Below x1.heap.size x1 w2 := below_go hB hb2
                    have jn' := Has.call jn hb2; clear jn; have jn := jn'; clear jn'
                    have own' := own_base own hB.size; clear own; have own := own'; clear own'
                    clear hb2 hB; have hB := hB'; clear hB'
                    generalize hWW : w2 = wx at *; clear hWW
                    refine hK.out _ _ ?hS25 (fun hHeld => ?_)
                    case hS25 => exact trivial
                    clear hK K
                    (try simp only [Act.put, List.setIfInBounds_toArray, List.set_cons_zero, List.set_cons_succ])
                    refine wpAnyH_ready (rs := [8]) (by kernel_rfl) (by simp) ?_
                    refine AllReadyH.cons (o := _) rfl (fun K hK => ?_) ?_
                    ·
                      rw [if_pos (by rfl)]
                      refine wp_append_own _ _ _ 54 (by rfl) x1.heap.size 3 i0s (.int .i64 0) 1 8 Try.underlying54 hi0 hz0 hz1 hz2 rfl (by decide) _ _ _ (by rfl) own ⟨E1, 0, none⟩ 2 2 [.int .i64 (t - 1), .int .i64 (t - 1)] (by rfl) rfl (nums_two jn) (fun u hu => by simp at hu; rcases hu with rfl | rfl <;> rfl) (by unfold maxLen; omega) (by omega) hB.size ?_
                      intro v3 w2 hown' hgrow _
                      change K (Act.put _ (some 42) _) _
                      have hB' := hB.grown hgrow hB.size (fun q hq => (own.lt q hq).1)
                      clear own hgrow jn; have own := hown'; clear hown'
                      clear hB; have hB := hB'; clear hB'
                      generalize hWW : w2 = wx at *; clear hWW
                      obtain ⟨A3, c3, rfl, hN3⟩ := own_nums own HD1.out HQ.out
                      clear own
                      refine hK.out _ _ ?hS26 (fun hHeld => ?_)
                      case hS26 => exact trivial
                      clear hK K
                      (try simp only [Act.put, List.setIfInBounds_toArray, List.set_cons_zero, List.set_cons_succ])
                      refine wpAnyH_ready (rs := [11]) (by kernel_rfl) (by simp) ?_
                      refine AllReadyH.cons (o := _) rfl (fun K hK => ?_) ?_
                      ·
                        go_simp
                        refine (HIH.out wx hB A3 c3 hN3 A4 HA4.out).mono ?_
                        rintro e w2 ⟨v', rfl, hAp', hg2, hq2⟩
                        (try go_wp2_with fail)
                        clear hN3 hB
                        generalize hWW : w2 = wx at *; clear hWW
                        refine hK.out _ _ ?hS27 (fun hHeld => ?_)
                        case hS27 => exact trivial
                        clear hK K
                        (try simp only [Act.put, List.setIfInBounds_toArray, List.set_cons_zero, List.set_cons_succ])
                        refine take_d (i := 12) (some 0) (v := ?_) rfl rfl (by kernel_rfl) (by kernel_rfl) (by kernel_rfl) (fun _ _ _ h => h) (Or.inl ⟨by rfl, ?_⟩) (by assumption) ?_
                        rotate_left; (intro w hSw; clear hSw; go_simp; try with_reducible rfl)
                        all_goals (try simp only [Act.put, List.setIfInBounds_toArray, List.set_cons_zero])
                        refine wpAnyH_done (by kernel_rfl) ?_ _
                        (try refine NoPanic.normal ?_)
                        go_wp2
                        go_ret
                        exact ⟨v', rfl, HFIN2.out _ _ hAp', HG2.out _ hg2, HQ2.out _ hq2⟩
                      exact AllReadyH.nil
                    exact AllReadyH.nil
                  exact AllReadyH.nil
                exact AllReadyH.nil
              · go_wp2
                go_ret
                exact ⟨u1, rfl, HFIN1.out h1t _ _ HAP1.out, HG1.out, HQ1.out⟩
            exact AllReadyH.nil
          exact AllReadyH.nil
        exact AllReadyH.nil
      exact AllReadyH.nil

end Go.Proofs.Ytmbmknpjmkgjlaa
