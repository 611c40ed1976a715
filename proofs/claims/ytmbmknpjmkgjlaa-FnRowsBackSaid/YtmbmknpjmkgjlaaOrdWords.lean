/-
  Plain words: lists in order, each once: putting to its place; sorting and striking what comes again.
-/
namespace Go.Proofs.Ytmbmknpjmkgjlaa

structure OrdB {α : Type} (lt eq : α → α → Bool) : Prop where
  refl : ∀ a, eq a a = true
  symm : ∀ a b, eq a b = true → eq b a = true
  etrans : ∀ a b c, eq a b = true → eq b c = true → eq a c = true
  irrefl : ∀ a b, eq a b = true → lt a b = false
  trans : ∀ a b c, lt a b = true → lt b c = true → lt a c = true
  total : ∀ a b, lt a b = false → lt b a = false → eq a b = true
  congr : ∀ a b c d, eq a b = true → eq c d = true → lt a c = lt b d

section
variable {α : Type} {lt eq : α → α → Bool}

def hasO (eq : α → α → Bool) (l : List α) (c : α) : Bool := l.any fun a => eq a c
/-- The first place of one that does not come ahead of b. -/
def plO (lt : α → α → Bool) : List α → α → Nat
  | [], _ => 0
  | a :: l, b => if lt a b = true then plO lt l b + 1 else 0
/-- b put to its place, once. -/
def adO (lt eq : α → α → Bool) : List α → α → List α
  | [], b => [b]
  | a :: l, b => if lt a b = true then a :: adO lt eq l b else if eq a b = true then a :: l else b :: a :: l
def SrtO (lt : α → α → Bool) (l : List α) : Prop := l.Pairwise fun a b => lt a b = true

theorem plO_le : ∀ (l : List α) (b : α), plO lt l b ≤ l.length
  | [], _ => Nat.le_refl _
  | a :: l, b => by
    have := plO_le l b
    simp only [plO, List.length_cons]
    split <;> omega
theorem plO_lt : ∀ (l : List α) (b : α) (i : Nat) (x : α), i < plO lt l b → l[i]? = some x → lt x b = true
  | [], _, _, _, h, _ => absurd h (Nat.not_lt_zero _)
  | a :: l, b, i, x, h, hx => by
    simp only [plO] at h
    split at h
    · cases i with
      | zero => simp at hx; subst hx; assumption
      | succ i => exact plO_lt l b i x (by omega) (by simpa using hx)
    · exact absurd h (Nat.not_lt_zero _)
theorem plO_at : ∀ (l : List α) (b : α) (x : α), l[plO lt l b]? = some x → lt x b = false
  | [], _, _, h => by simp at h
  | a :: l, b, x, h => by
    simp only [plO] at h
    split at h
    · exact plO_at l b x (by simpa using h)
    · rename_i hn
      simp at h; subst h
      simpa using hn
/-- A place ahead of which all come ahead of b, and that does not itself, is b's place. -/
theorem plO_eq {l : List α} {b : α} {n : Nat} (h1 : ∀ i x, i < n → l[i]? = some x → lt x b = true) (hn : n ≤ l.length) (h2 : ∀ x, l[n]? = some x → lt x b = false) : plO lt l b = n := by
  rcases Nat.lt_trichotomy (plO lt l b) n with h | h | h
  · have hlt : plO lt l b < l.length := by omega
    have e := List.getElem?_eq_getElem hlt
    have a1 := plO_at l b _ e
    have a2 := h1 _ _ h e
    rw [a1] at a2; cases a2
  · exact h
  · have := plO_le (lt := lt) l b
    have hlt : n < l.length := by omega
    have e := List.getElem?_eq_getElem hlt
    have a1 := plO_lt l b n _ h e
    have a2 := h2 _ e
    rw [a1] at a2; cases a2
theorem adO_in : ∀ (l : List α) (b x : α), l[plO lt l b]? = some x → eq x b = true → adO lt eq l b = l
  | [], _, _, h, _ => by simp at h
  | a :: l, b, x, h, he => by
    simp only [plO] at h
    simp only [adO]
    split
    · rename_i hc
      rw [if_pos hc] at h
      rw [adO_in l b x (by simpa using h) he]
    · rename_i hc
      rw [if_neg hc] at h
      simp at h; subst h
      rw [if_pos he]
theorem adO_out : ∀ (l : List α) (b : α), (∀ x, l[plO lt l b]? = some x → eq x b = false) → adO lt eq l b = l.take (plO lt l b) ++ b :: l.drop (plO lt l b)
  | [], _, _ => rfl
  | a :: l, b, h => by
    simp only [plO] at h
    simp only [adO, plO]
    split
    · rename_i hc
      rw [if_pos hc] at h
      rw [adO_out l b fun x hx => h x (by simpa using hx)]
      rfl
    · rename_i hc
      rw [if_neg hc] at h
      have := h a rfl
      rw [if_neg (by rw [this]; exact Bool.false_ne_true)]
      rfl

theorem hasO_nil (c : α) : hasO eq [] c = false := rfl
theorem hasO_cons (a : α) (l : List α) (c : α) : hasO eq (a :: l) c = (eq a c || hasO eq l c) := by simp [hasO]
theorem hasO_app (l m : List α) (c : α) : hasO eq (l ++ m) c = (hasO eq l c || hasO eq m c) := by simp [hasO]
theorem hasO_iff {l : List α} {c : α} : hasO eq l c = true ↔ ∃ a, a ∈ l ∧ eq a c = true := by simp [hasO]
theorem hasO_perm {l m : List α} (h : l.Perm m) (c : α) : hasO eq l c = hasO eq m c := by
  rw [Bool.eq_iff_iff, hasO_iff, hasO_iff]
  exact ⟨fun ⟨a, h1, h2⟩ => ⟨a, h.mem_iff.1 h1, h2⟩, fun ⟨a, h1, h2⟩ => ⟨a, h.mem_iff.2 h1, h2⟩⟩

variable (O : OrdB lt eq)
include O

theorem OrdB.comm (a b : α) : eq a b = eq b a := by rw [Bool.eq_iff_iff]; exact ⟨O.symm a b, O.symm b a⟩
theorem OrdB.econgr {a b : α} (h : eq a b = true) (c : α) : eq a c = eq b c := by
  rw [Bool.eq_iff_iff]
  exact ⟨O.etrans b a c (O.symm _ _ h), O.etrans a b c h⟩
theorem OrdB.asymm {a b : α} (h : lt a b = true) : lt b a = false := by
  cases e : lt b a
  · rfl
  · have := O.trans a b a h e
    rw [O.irrefl a a (O.refl a)] at this; cases this
theorem OrdB.not_eq {a b : α} (h : lt a b = true) : eq a b = false := by
  cases e : eq a b
  · rfl
  · rw [O.irrefl a b e] at h; cases h
theorem OrdB.ntrans {a b c : α} (h : lt a b = false) (k : lt b c = false) : lt a c = false := by
  cases e : lt a c
  · rfl
  · cases e2 : lt c b
    · have h1 := O.total b c k e2
      rw [O.congr a a b c (O.refl a) h1, e] at h; cases h
    · rw [O.trans a c b e e2] at h; cases h

theorem hasO_ad (l : List α) (b c : α) : hasO eq (adO lt eq l b) c = (hasO eq l c || eq b c) := by
  induction l with
  | nil => simp [adO, hasO]
  | cons a l ih =>
    simp only [adO]
    split
    · rw [hasO_cons, hasO_cons, ih, Bool.or_assoc]
    · split
      · rename_i he
        rw [hasO_cons, O.econgr he c]
        cases eq b c <;> simp
      · rw [hasO_cons, hasO_cons]
        cases eq b c <;> simp
omit O in
theorem mem_ad (l : List α) (b x : α) (h : x ∈ adO lt eq l b) : x = b ∨ x ∈ l := by
  induction l with
  | nil => simp [adO] at h; exact .inl h
  | cons a l ih =>
    simp only [adO] at h
    split at h
    · rcases List.mem_cons.1 h with h | h
      · exact .inr (by simp [h])
      · rcases ih h with h | h
        · exact .inl h
        · exact .inr (List.mem_cons_of_mem _ h)
    · split at h
      · exact .inr h
      · rcases List.mem_cons.1 h with h | h
        · exact .inl h
        · exact .inr h
theorem srtO_ad {l : List α} (h : SrtO lt l) (b : α) : SrtO lt (adO lt eq l b) := by
  induction l with
  | nil => simp [adO, SrtO]
  | cons a l ih =>
    obtain ⟨h1, h2⟩ := List.pairwise_cons.1 h
    simp only [adO]
    split
    · rename_i hc
      refine List.pairwise_cons.2 ⟨fun x hx => ?_, ih h2⟩
      rcases mem_ad l b x hx with rfl | hx
      · exact hc
      · exact h1 x hx
    · rename_i hc
      split
      · exact h
      · rename_i he
        have hba : lt b a = true := by
          cases e : lt b a
          · exact absurd (O.total a b (by simpa using hc) e) he
          · rfl
        refine List.pairwise_cons.2 ⟨fun x hx => ?_, h⟩
        rcases List.mem_cons.1 hx with rfl | hx
        · exact hba
        · exact O.trans b a x hba (h1 x hx)
theorem lenO_ad {l : List α} (h : SrtO lt l) (b : α) : (adO lt eq l b).length = if hasO eq l b = true then l.length else l.length + 1 := by
  induction l with
  | nil => simp [adO, hasO]
  | cons a l ih =>
    obtain ⟨h1, h2⟩ := List.pairwise_cons.1 h
    simp only [adO]
    split
    · rename_i hc
      rw [hasO_cons, O.not_eq hc, Bool.false_or, List.length_cons, ih h2]
      split <;> rfl
    · rename_i hc
      split
      · rename_i he
        rw [hasO_cons, he, Bool.true_or, if_pos rfl]
      · rename_i he
        have hba : lt b a = true := by
          cases e : lt b a
          · exact absurd (O.total a b (by simpa using hc) e) he
          · rfl
        rw [if_neg]
        · rfl
        · rw [hasO_iff]
          rintro ⟨x, hx, hxb⟩
          rcases List.mem_cons.1 hx with rfl | hx
          · exact he hxb
          · have := O.not_eq (O.trans b a x hba (h1 x hx))
            rw [O.comm, hxb] at this; cases this

/-- Two lists in order with the same members are one. -/
theorem uniqO : ∀ (l m : List α), SrtO lt l → SrtO lt m → (∀ c, hasO eq l c = hasO eq m c) → l.length = m.length ∧ ∀ (i : Nat) (x y : α), l[i]? = some x → m[i]? = some y → eq x y = true
  | [], [], _, _, _ => ⟨rfl, fun _ _ _ h => by simp at h⟩
  | [], b :: m, _, _, h => by have := h b; rw [hasO_nil, hasO_cons, O.refl] at this; simp at this
  | a :: l, [], _, _, h => by have := h a; rw [hasO_nil, hasO_cons, O.refl] at this; simp at this
  | a :: l, b :: m, hl, hm, h => by
    obtain ⟨l1, l2⟩ := List.pairwise_cons.1 hl
    obtain ⟨m1, m2⟩ := List.pairwise_cons.1 hm
    have hab : eq a b = true := by
      have ha := (h a).symm.trans (by rw [hasO_cons, O.refl]; rfl : hasO eq (a :: l) a = true)
      have hb := (h b).trans (by rw [hasO_cons, O.refl]; rfl : hasO eq (b :: m) b = true)
      obtain ⟨x, hx, hxa⟩ := hasO_iff.1 ha
      obtain ⟨y, hy, hyb⟩ := hasO_iff.1 hb
      rcases List.mem_cons.1 hx with rfl | hx
      · exact O.symm _ _ hxa
      · rcases List.mem_cons.1 hy with rfl | hy
        · exact hyb
        · have e1 := m1 x hx
          rw [O.congr b b x a (O.refl b) hxa] at e1
          have e2 := l1 y hy
          rw [O.congr a a y b (O.refl a) hyb] at e2
          rw [O.asymm e1] at e2; cases e2
    have hlm : ∀ c, hasO eq l c = hasO eq m c := by
      intro c
      have hc := h c
      rw [hasO_cons, hasO_cons, O.econgr hab c] at hc
      cases e : eq b c
      · rw [e, Bool.false_or, Bool.false_or] at hc; exact hc
      · have n1 : hasO eq l c = false := by
          cases e1 : hasO eq l c
          · rfl
          · obtain ⟨x, hx, hxc⟩ := hasO_iff.1 e1
            have := O.not_eq (l1 x hx)
            rw [O.etrans a b x hab (O.etrans b c x e (O.symm _ _ hxc))] at this; cases this
        have n2 : hasO eq m c = false := by
          cases e1 : hasO eq m c
          · rfl
          · obtain ⟨x, hx, hxc⟩ := hasO_iff.1 e1
            have := O.not_eq (m1 x hx)
            rw [O.etrans b c x e (O.symm _ _ hxc)] at this; cases this
        rw [n1, n2]
    obtain ⟨r1, r2⟩ := uniqO l m l2 m2 hlm
    refine ⟨by simp [r1], fun i x y hx hy => ?_⟩
    cases i with
    | zero => simp at hx hy; subst hx hy; exact hab
    | succ i => exact r2 i x y (by simpa using hx) (by simpa using hy)
omit O

/-- What is left where each that equals the one ahead is struck. -/
def cpL (eq : α → α → Bool) : α → List α → List α
  | _, [] => []
  | p, b :: l => if eq b p = true then cpL eq b l else b :: cpL eq b l
def cpA (eq : α → α → Bool) : List α → List α
  | [] => []
  | a :: l => a :: cpL eq a l
def laO : α → List α → α
  | p, [] => p
  | _, b :: l => laO b l
theorem cpL_snoc : ∀ (l : List α) (p x : α), cpL eq p (l ++ [x]) = cpL eq p l ++ if eq x (laO p l) = true then [] else [x]
  | [], p, x => rfl
  | b :: l, p, x => by
    show (if eq b p = true then cpL eq b (l ++ [x]) else b :: cpL eq b (l ++ [x])) = (if eq b p = true then cpL eq b l else b :: cpL eq b l) ++ (if eq x (laO b l) = true then [] else [x])
    rw [cpL_snoc l b x]
    by_cases h : eq b p = true
    · rw [if_pos h, if_pos h]
    · rw [if_neg h, if_neg h]; rfl
theorem laO_take : ∀ (k : Nat) (l : List α) (p y : α), (p :: l)[k]? = some y → laO p (l.take k) = y
  | 0, l, p, y, h => by simpa [laO] using h
  | k + 1, [], p, y, h => by simp at h
  | k + 1, b :: l, p, y, h => by
    rw [List.take_succ_cons]
    exact laO_take k l b y (by simpa using h)
theorem cpA_snoc (l : List α) (k : Nat) (x y : α) (h1 : l[k]? = some y) (h2 : l[k + 1]? = some x) : cpA eq (l.take (k + 2)) = cpA eq (l.take (k + 1)) ++ if eq x y = true then [] else [x] := by
  cases l with
  | nil => simp at h1
  | cons a l =>
    have h2' : l[k]? = some x := by simpa using h2
    have e : l.take (k + 1) = l.take k ++ [x] := by
      rw [List.take_add_one, h2']; rfl
    show a :: cpL eq a (l.take (k + 1)) = a :: cpL eq a (l.take k) ++ _
    rw [e, cpL_snoc, laO_take k l a y h1]
    rfl
theorem cpA_len (l : List α) : (cpA eq l).length ≤ l.length := by
  cases l with
  | nil => exact Nat.le_refl _
  | cons a l =>
    have h : ∀ (l : List α) (p : α), (cpL eq p l).length ≤ l.length := by
      intro l
      induction l with
      | nil => intro p; exact Nat.le_refl _
      | cons b l ih =>
        intro p
        have := ih b
        simp only [cpL]
        split <;> simp <;> omega
    have := h l a
    simp [cpA]; omega
include O
theorem hasO_cp (l : List α) (c : α) : hasO eq (cpA eq l) c = hasO eq l c := by
  cases l with
  | nil => rfl
  | cons a l =>
    show hasO eq (a :: cpL eq a l) c = _
    induction l generalizing a with
    | nil => rfl
    | cons b l ih =>
      have ihb := ih b
      rw [hasO_cons, hasO_cons] at ihb
      simp only [cpL]
      split
      · rename_i he
        rw [hasO_cons, hasO_cons, hasO_cons, ← O.econgr he c]
        rw [ihb]
        cases eq b c <;> simp
      · rw [hasO_cons, hasO_cons, ihb, hasO_cons, hasO_cons]
theorem srtO_cp (l : List α) (h : l.Pairwise fun a b => lt b a = false) : SrtO lt (cpA eq l) := by
  cases l with
  | nil => exact List.Pairwise.nil
  | cons a l =>
    show SrtO lt (a :: cpL eq a l)
    induction l generalizing a with
    | nil => simp [cpL, SrtO]
    | cons b l ih =>
      obtain ⟨h1, h2⟩ := List.pairwise_cons.1 h
      have ihb := ih b h2
      obtain ⟨r1, r2⟩ := List.pairwise_cons.1 ihb
      simp only [cpL]
      split
      · rename_i he
        refine List.pairwise_cons.2 ⟨fun x hx => ?_, r2⟩
        rw [← O.congr b a x x he (O.refl x)]
        exact r1 x hx
      · rename_i he
        have hab : lt a b = true := by
          cases e : lt a b
          · exact absurd (O.total b a (h1 b (List.mem_cons_self ..)) e) he
          · rfl
        refine List.pairwise_cons.2 ⟨fun x hx => ?_, ihb⟩
        rcases List.mem_cons.1 hx with rfl | hx
        · exact hab
        · exact O.trans a b x hab (r1 x hx)
omit O

/-- Those of a list put to their places one after the other. -/
def foldO (lt eq : α → α → Bool) (f : Nat → α) : Nat → List α
  | 0 => []
  | n + 1 => adO lt eq (foldO lt eq f n) (f n)
include O
theorem foldO_srt (f : Nat → α) : ∀ n, SrtO lt (foldO lt eq f n)
  | 0 => List.Pairwise.nil
  | n + 1 => srtO_ad O (foldO_srt f n) _
theorem foldO_has (f : Nat → α) (c : α) : ∀ n, hasO eq (foldO lt eq f n) c = (List.range n).any fun j => eq (f j) c
  | 0 => rfl
  | n + 1 => by
    rw [foldO, hasO_ad O, foldO_has f c n, List.range_succ, List.any_append]
    simp
theorem foldO_len (f : Nat → α) : ∀ n, (foldO lt eq f n).length = ((List.range n).filter fun k => !((List.range k).any fun j => eq (f j) (f k))).length
  | 0 => rfl
  | n + 1 => by
    rw [foldO, lenO_ad O (foldO_srt O f n), foldO_len f n, foldO_has O f (f n) n, List.range_succ, List.filter_append, List.length_append]
    generalize hA : ((List.range n).any fun j => eq (f j) (f n)) = A
    have e : (List.filter (fun k => !((List.range k).any fun j => eq (f j) (f k))) [n]).length = if A = true then 0 else 1 := by
      rw [List.filter_cons, hA]
      cases A <;> rfl
    rw [e]
    cases A <;> rfl
end

end Go.Proofs.Ytmbmknpjmkgjlaa
