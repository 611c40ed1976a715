/-
  Contracts: FormSide, the program's and the reference's.
-/
import Derived.Test.YtegdnfmhhigjfaaQFgD
import Derived.Test.YtegdnfmhhigjfaaQEqlB
import Derived.Deep.RegionHeld3
namespace Go.Proofs.Ytegdnfmhhigjfaa
open Go.RowKit

theorem oneB_in : In17 oneB 16 := fun p _ => by unfold oneB; split <;> omega
theorem formB_in {b : Nat → Int} {k : Nat} (hb : In17 b 16) (hk : k < 8) : In17 (formB b k) 16 := fun p hp => hb _ (srcP_lt k hk p hp)
theorem keepS {w' : World} {B0 B1 : Nat} {b c : Nat → Int} (h0 : Has w' B0 16 (fun o => .int .i64 (b o))) (h1 : Has w' B1 16 (fun o => .int .i64 (c o))) : (∀ o, o < 16 → w'.cell? ⟨B0, o, none⟩ = some (.int .i64 (b o))) ∧ (∀ o, o < 16 → w'.cell? ⟨B1, o, none⟩ = some (.int .i64 (c o))) :=
  ⟨h0.1, h1.1⟩
theorem ret_ibS {a b : Int} {p : Bool} (h : a = b) : Ending.returned (.tuple #[.int .i64 a, .bool p]) = .returned (.tuple #[.int .i64 b, .bool p]) := by rw [h]
theorem lit16 (f : Nat → Int) (o : Nat) (ho : o < 16) : (#[Value.int .i64 (f 0), .int .i64 (f 1), .int .i64 (f 2), .int .i64 (f 3), .int .i64 (f 4), .int .i64 (f 5), .int .i64 (f 6), .int .i64 (f 7), .int .i64 (f 8), .int .i64 (f 9), .int .i64 (f 10), .int .i64 (f 11), .int .i64 (f 12), .int .i64 (f 13), .int .i64 (f 14), .int .i64 (f 15)] : Array Value).getD o undef = .int .i64 (f o) := by
  rcases p16 ho with rfl | rfl | rfl | rfl | rfl | rfl | rfl | rfl | rfl | rfl | rfl | rfl | rfl | rfl | rfl | rfl <;> rfl

set_option maxHeartbeats 8000000 in
set_option maxRecDepth 100000 in
theorem formSide_any (k d : Int) (w : World) : Calls Try.prog 17 #[.int .i64 k, .int .i64 d] w fun e w' => e = .returned (.tuple #[.int .i64 (zr (inB k 0 7 && inB d 0 3) (sdS k.toNat d.toNat)), .bool (inB k 0 7 && inB d 0 3)]) ∧ Below w.heap.size w w' := by
  cases hk : inB k 0 7
  · simp only [Bool.false_and, zr_false]
    go_enter Try.func17, Try.ntmps17
    go_wp2_with (first | (go_at_call 62; refine (isForm_any _ _).mono ?_; rintro e w1 ⟨rfl, rfl⟩) | (go_at_call 73; refine (isDirection_any _ _).mono ?_; rintro e w1 ⟨rfl, rfl⟩))
    go_ret2
    exact ⟨rfl, (by repeat (first | (with_reducible exact Below.refl _ _) | (with_reducible assumption) | (with_reducible refine below_go ?_ (by with_reducible assumption)) | (with_reducible refine below_new ?_ _) | ((with_reducible refine below_put ?_ ?_ _); rotate_left; (dsimp only; omega)) | (with_reducible refine Below.drew ?_) | (with_reducible refine below_dn ?_ _)))⟩
  · cases hd : inB d 0 3
    · simp only [Bool.and_false, zr_false]
      go_enter Try.func17, Try.ntmps17
      go_wp2_with (first | (go_at_call 62; refine (isForm_any _ _).mono ?_; rintro e w1 ⟨rfl, rfl⟩) | (go_at_call 73; refine (isDirection_any _ _).mono ?_; rintro e w1 ⟨rfl, rfl⟩))
      go_ret2
      exact ⟨rfl, (by repeat (first | (with_reducible exact Below.refl _ _) | (with_reducible assumption) | (with_reducible refine below_go ?_ (by with_reducible assumption)) | (with_reducible refine below_new ?_ _) | ((with_reducible refine below_put ?_ ?_ _); rotate_left; (dsimp only; omega)) | (with_reducible refine Below.drew ?_) | (with_reducible refine below_dn ?_ _)))⟩
    · obtain ⟨a, ha, rfl⟩ := form_nat hk
      obtain ⟨c, hc, rfl⟩ := dir_nat hd
      simp only [Bool.and_self, zr_true, Int.toNat_natCast]
      obtain ⟨hK4, hKS, hE, hA⟩ := sd_first a ha c hc
      have HKS := hide hKS; have HE := hide hE; have HA := hide hA
      have H1 := hide oneB_in
      have HF := hide (formB_in oneB_in ha)
      clear hKS hE hA
      go_enter Try.func17, Try.ntmps17
      go_upto_region 5 with (first | (go_at_call 62; refine (isForm_any _ _).mono ?_; rintro e w1 ⟨rfl, rfl⟩) | (go_at_call 73; refine (isDirection_any _ _).mono ?_; rintro e w1 ⟨rfl, rfl⟩))
      generalize hW : w.alloc _ = w1
      have hB : Below w.heap.size w w1 := by (rw [← hW]; exact (by repeat (first | (with_reducible exact Below.refl _ _) | (with_reducible assumption) | (with_reducible refine below_go ?_ (by with_reducible assumption)) | (with_reducible refine below_new ?_ _) | ((with_reducible refine below_put ?_ ?_ _); rotate_left; (dsimp only; omega)) | (with_reducible refine Below.drew ?_) | (with_reducible refine below_dn ?_ _))))
      have hsz : Hid (w1.heap.size = w.heap.size + 1) := hide (by rw [← hW]; simp)
      have i0 : Has w1 (w.heap.size) 16 (fun o => .int .i64 (if o = 6 then 1 else 0)) := by (rw [← hW]; repeat (first | (refine Has.new ?_ rfl; simp; done) | refine Has.alloc ?_ _))
      have ci0 := i0.1; have fi0 := i0.2.1; have zi0 := i0.2.2
      clear hW
      have i0 : Has w1 w.heap.size 16 (fun o => .int .i64 (oneB o)) := i0
      go_upto_region 6 with (first | (go_at_call 74; (with_reducible refine (slide_any oneB H1.out _ hc _).mono ?_); rintro e w2 ⟨rfl, hb2⟩; have hB' : Below w.heap.size w w2 := below_go (by repeat (first | (with_reducible exact Below.refl _ _) | (with_reducible assumption) | (with_reducible refine below_go ?_ (by with_reducible assumption)) | (with_reducible refine below_new ?_ _) | ((with_reducible refine below_put ?_ ?_ _); rotate_left; (dsimp only; omega)) | (with_reducible refine Below.drew ?_) | (with_reducible refine below_dn ?_ _))) hb2; have i0' : Has w2 (w.heap.size) 16 _ := Has.call (by repeat (first | (with_reducible assumption) | (with_reducible apply Has.set) | ((with_reducible apply Has.other); (case hne => (dsimp only; omega))) | (with_reducible apply Has.alloc) | (with_reducible apply Has.drew) | (with_reducible apply Has.drewN))) hb2; clear hB hb2; have hB := hB'; clear hB'; (try clear fi0); (try clear zi0); (try clear ci0); clear i0; have i0 := i0'; clear i0'; have ci0 := i0.1; have fi0 := i0.2.1; have zi0 := i0.2.2) | (refine load_Board rfl _ rfl _ _ rfl (by repeat (first | (with_reducible assumption) | (with_reducible apply Has.set) | ((with_reducible apply Has.other); (case hne => (dsimp only; omega))) | (with_reducible apply Has.alloc) | (with_reducible apply Has.drew) | (with_reducible apply Has.drewN))) (by omega) ?_))
      have hz1 : w.heap.size < w2.heap.size := zi0
      generalize hW : (World.alloc w2 _) = w1
      have hB' : Below w.heap.size w w1 := by (rw [← hW]; exact (by repeat (first | (with_reducible exact Below.refl _ _) | (with_reducible assumption) | (with_reducible refine below_go ?_ (by with_reducible assumption)) | (with_reducible refine below_new ?_ _) | ((with_reducible refine below_put ?_ ?_ _); rotate_left; (dsimp only; omega)) | (with_reducible refine Below.drew ?_) | (with_reducible refine below_dn ?_ _))))
      have i0' := Has.at hW (B := w.heap.size) (n := 16) (by repeat (first | (with_reducible assumption) | (with_reducible apply Has.set) | ((with_reducible apply Has.other); (case hne => (dsimp only; omega))) | (with_reducible apply Has.alloc) | (with_reducible apply Has.drew) | (with_reducible apply Has.drewN)))
      have j0 := Has.at hW (n := 16) (Has.new' rfl)
      try simp only [World.size_alloc] at j0
      clear hW; clear hB; have hB := hB'; clear hB'; (try clear fi0); (try clear zi0); (try clear ci0); clear i0; have i0 := i0'; clear i0'; have ci0 := i0.1; have fi0 := i0.2.1; have zi0 := i0.2.2; have cj0 := j0.1; have fj0 := j0.2.1; have zj0 := j0.2.2
      generalize hS : w2.heap.size = B1 at *
      clear hS
      have j0 := j0.congr (d := fun o => .int .i64 (slB oneB c o)) (fun o ho => lit16 _ o ho)
      clear ci0 fi0 zi0 cj0 fj0 zj0 hsz
      go_wp2_with fail
      go_loopw [33] (fun v wr => ∃ e : Nat, e ≤ sdP a c ∧ v = .int .i64 e ∧ Below w.heap.size w wr ∧ Has wr w.heap.size 16 (fun o => .int .i64 (oneB o)) ∧ Has wr B1 16 (fun o => .int .i64 (slB oneB c o))) (fun i _ => sdP a c - (intOf i).toNat)
      case atStart => exact ⟨0, by omega, rfl, hB, i0, j0⟩
      case round =>
        clear hB i0 j0
        obtain ⟨e, he, rfl, hB, i0, j0⟩ := hrel
        have he4 : e < 4 := by omega
        have a0 : (0 : Int) ≤ e := by omega
        have a1 : (e : Int) < 4 := by omega
        have ci0 := i0.1; have fi0 := i0.2.1; have zi0 := i0.2.2
        have cj0 := j0.1; have fj0 := j0.2.1; have zj0 := j0.2.2
        go_upto_region 10 with (first | (go_at_call 63; (with_reducible refine (form_any oneB _ ha _).mono ?_); rintro e w2 ⟨rfl, hb2⟩; have hB' : Below w.heap.size w w2 := below_go (by repeat (first | (with_reducible exact Below.refl _ _) | (with_reducible assumption) | (with_reducible refine below_go ?_ (by with_reducible assumption)) | (with_reducible refine below_new ?_ _) | ((with_reducible refine below_put ?_ ?_ _); rotate_left; (dsimp only; omega)) | (with_reducible refine Below.drew ?_) | (with_reducible refine below_dn ?_ _))) hb2; have i0' : Has w2 (w.heap.size) 16 _ := Has.call (by repeat (first | (with_reducible assumption) | (with_reducible apply Has.set) | ((with_reducible apply Has.other); (case hne => (dsimp only; omega))) | (with_reducible apply Has.alloc) | (with_reducible apply Has.drew) | (with_reducible apply Has.drewN))) hb2; have j0' : Has w2 (B1) 16 _ := Has.call (by repeat (first | (with_reducible assumption) | (with_reducible apply Has.set) | ((with_reducible apply Has.other); (case hne => (dsimp only; omega))) | (with_reducible apply Has.alloc) | (with_reducible apply Has.drew) | (with_reducible apply Has.drewN))) hb2; clear hB hb2; have hB := hB'; clear hB'; (try clear fi0); (try clear zi0); (try clear ci0); clear i0; have i0 := i0'; clear i0'; have ci0 := i0.1; have fi0 := i0.2.1; have zi0 := i0.2.2; (try clear fj0); (try clear zj0); (try clear cj0); clear j0; have j0 := j0'; clear j0'; have cj0 := j0.1; have fj0 := j0.2.1; have zj0 := j0.2.2) | (go_at_call 74; (with_reducible refine (slide_any _ HF.out _ he4 _).mono ?_); rintro e w2 ⟨rfl, hb2⟩; have hB' : Below w.heap.size w w2 := below_go (by repeat (first | (with_reducible exact Below.refl _ _) | (with_reducible assumption) | (with_reducible refine below_go ?_ (by with_reducible assumption)) | (with_reducible refine below_new ?_ _) | ((with_reducible refine below_put ?_ ?_ _); rotate_left; (dsimp only; omega)) | (with_reducible refine Below.drew ?_) | (with_reducible refine below_dn ?_ _))) hb2; have i0' : Has w2 (w.heap.size) 16 _ := Has.call (by repeat (first | (with_reducible assumption) | (with_reducible apply Has.set) | ((with_reducible apply Has.other); (case hne => (dsimp only; omega))) | (with_reducible apply Has.alloc) | (with_reducible apply Has.drew) | (with_reducible apply Has.drewN))) hb2; have j0' : Has w2 (B1) 16 _ := Has.call (by repeat (first | (with_reducible assumption) | (with_reducible apply Has.set) | ((with_reducible apply Has.other); (case hne => (dsimp only; omega))) | (with_reducible apply Has.alloc) | (with_reducible apply Has.drew) | (with_reducible apply Has.drewN))) hb2; clear hB hb2; have hB := hB'; clear hB'; (try clear fi0); (try clear zi0); (try clear ci0); clear i0; have i0 := i0'; clear i0'; have ci0 := i0.1; have fi0 := i0.2.1; have zi0 := i0.2.2; (try clear fj0); (try clear zj0); (try clear cj0); clear j0; have j0 := j0'; clear j0'; have cj0 := j0.1; have fj0 := j0.2.1; have zj0 := j0.2.2) | (refine load_Board rfl _ rfl _ _ rfl (by repeat (first | (with_reducible assumption) | (with_reducible apply Has.set) | ((with_reducible apply Has.other); (case hne => (dsimp only; omega))) | (with_reducible apply Has.alloc) | (with_reducible apply Has.drew) | (with_reducible apply Has.drewN))) (by omega) ?_))
        have hz2 : w.heap.size < w2.heap.size := zi0
        have hz3 : B1 < w2.heap.size := zj0
        generalize hW : (World.alloc w2 _) = w1
        have hB' : Below w.heap.size w w1 := by (rw [← hW]; exact (by repeat (first | (with_reducible exact Below.refl _ _) | (with_reducible assumption) | (with_reducible refine below_go ?_ (by with_reducible assumption)) | (with_reducible refine below_new ?_ _) | ((with_reducible refine below_put ?_ ?_ _); rotate_left; (dsimp only; omega)) | (with_reducible refine Below.drew ?_) | (with_reducible refine below_dn ?_ _))))
        have i0' := Has.at hW (B := w.heap.size) (n := 16) (by repeat (first | (with_reducible assumption) | (with_reducible apply Has.set) | ((with_reducible apply Has.other); (case hne => (dsimp only; omega))) | (with_reducible apply Has.alloc) | (with_reducible apply Has.drew) | (with_reducible apply Has.drewN)))
        have j0' := Has.at hW (B := B1) (n := 16) (by repeat (first | (with_reducible assumption) | (with_reducible apply Has.set) | ((with_reducible apply Has.other); (case hne => (dsimp only; omega))) | (with_reducible apply Has.alloc) | (with_reducible apply Has.drew) | (with_reducible apply Has.drewN)))
        have k0 := Has.at hW (n := 16) (Has.new' rfl)
        try simp only [World.size_alloc] at k0
        clear hW; clear hB; have hB := hB'; clear hB'; (try clear fi0); (try clear zi0); (try clear ci0); clear i0; have i0 := i0'; clear i0'; have ci0 := i0.1; have fi0 := i0.2.1; have zi0 := i0.2.2; (try clear fj0); (try clear zj0); (try clear cj0); clear j0; have j0 := j0'; clear j0'; have cj0 := j0.1; have fj0 := j0.2.1; have zj0 := j0.2.2; have ck0 := k0.1; have fk0 := k0.2.1; have zk0 := k0.2.2
        generalize hS : w2.heap.size = B2 at *
        clear hS
        have k0 := k0.congr (d := fun o => .int .i64 (slB (formB oneB a) e o)) (fun o ho => lit16 _ o ho)
        clear ci0 fi0 fj0 ck0 fk0
        have ck0 := k0.1
        by_cases h4 : e = sdP a c
        · have hq : ∀ w, (binOp .eql 27 (.agg #[.int .i64 ((slB (formB oneB a) e) 0), .int .i64 ((slB (formB oneB a) e) 1), .int .i64 ((slB (formB oneB a) e) 2), .int .i64 ((slB (formB oneB a) e) 3), .int .i64 ((slB (formB oneB a) e) 4), .int .i64 ((slB (formB oneB a) e) 5), .int .i64 ((slB (formB oneB a) e) 6), .int .i64 ((slB (formB oneB a) e) 7), .int .i64 ((slB (formB oneB a) e) 8), .int .i64 ((slB (formB oneB a) e) 9), .int .i64 ((slB (formB oneB a) e) 10), .int .i64 ((slB (formB oneB a) e) 11), .int .i64 ((slB (formB oneB a) e) 12), .int .i64 ((slB (formB oneB a) e) 13), .int .i64 ((slB (formB oneB a) e) 14), .int .i64 ((slB (formB oneB a) e) 15)]) (.agg #[.int .i64 ((formB (slB oneB c) a) 0), .int .i64 ((formB (slB oneB c) a) 1), .int .i64 ((formB (slB oneB c) a) 2), .int .i64 ((formB (slB oneB c) a) 3), .int .i64 ((formB (slB oneB c) a) 4), .int .i64 ((formB (slB oneB c) a) 5), .int .i64 ((formB (slB oneB c) a) 6), .int .i64 ((formB (slB oneB c) a) 7), .int .i64 ((formB (slB oneB c) a) 8), .int .i64 ((formB (slB oneB c) a) 9), .int .i64 ((formB (slB oneB c) a) 10), .int .i64 ((formB (slB oneB c) a) 11), .int .i64 ((formB (slB oneB c) a) 12), .int .i64 ((formB (slB oneB c) a) 13), .int .i64 ((formB (slB oneB c) a) 14), .int .i64 ((formB (slB oneB c) a) 15)])).run Try.prog w = .ok (.bool true) w := fun w => by rw [run_eql_Board, h4, HE.out]
          have HJ := hide h4
          clear h4
          go_region_held3 (fun w' => (∀ o, o < 16 → w'.cell? ⟨B1, o, none⟩ = some (.int .i64 (slB oneB c o))) ∧ (∀ o, o < 16 → w'.cell? ⟨B2, o, none⟩ = some (.int .i64 (slB (formB oneB a) e o)))) (first
            | (with_reducible exact keepS j0 k0)
            | (with_reducible exact keepS (Has.drew j0) (Has.drew k0)))
            (first | (go_at_call 63; (with_reducible refine (form_any _ _ ha _).mono ?_); rintro e w2 ⟨rfl, hb2⟩; have hB' : Below w.heap.size w w2 := below_go (by repeat (first | (with_reducible exact Below.refl _ _) | (with_reducible assumption) | (with_reducible refine below_go ?_ (by with_reducible assumption)) | (with_reducible refine below_new ?_ _) | ((with_reducible refine below_put ?_ ?_ _); rotate_left; (dsimp only; omega)) | (with_reducible refine Below.drew ?_) | (with_reducible refine below_dn ?_ _))) hb2; have i0' : Has w2 (w.heap.size) 16 _ := Has.call (by repeat (first | (with_reducible assumption) | (with_reducible apply Has.set) | ((with_reducible apply Has.other); (case hne => (dsimp only; omega))) | (with_reducible apply Has.alloc) | (with_reducible apply Has.drew) | (with_reducible apply Has.drewN))) hb2; have j0' : Has w2 (B1) 16 _ := Has.call (by repeat (first | (with_reducible assumption) | (with_reducible apply Has.set) | ((with_reducible apply Has.other); (case hne => (dsimp only; omega))) | (with_reducible apply Has.alloc) | (with_reducible apply Has.drew) | (with_reducible apply Has.drewN))) hb2; have k0' : Has w2 (B2) 16 _ := Has.call (by repeat (first | (with_reducible assumption) | (with_reducible apply Has.set) | ((with_reducible apply Has.other); (case hne => (dsimp only; omega))) | (with_reducible apply Has.alloc) | (with_reducible apply Has.drew) | (with_reducible apply Has.drewN))) hb2; clear hB hb2; have hB := hB'; clear hB'; (try clear fi0); (try clear zi0); (try clear ci0); clear i0; have i0 := i0'; clear i0'; have ci0 := i0.1; have fi0 := i0.2.1; have zi0 := i0.2.2; (try clear fj0); (try clear zj0); (try clear cj0); clear j0; have j0 := j0'; clear j0'; have cj0 := j0.1; have fj0 := j0.2.1; have zj0 := j0.2.2; (try clear fk0); (try clear zk0); (try clear ck0); clear k0; have k0 := k0'; clear k0'; have ck0 := k0.1; have fk0 := k0.2.1; have zk0 := k0.2.2) | fail)
          all_goals
            go_wp2
            go_ret2
            exact ⟨ret_ibS (by rw [← HKS.out, HJ.out]), (by repeat (first | (with_reducible exact Below.refl _ _) | (with_reducible assumption) | (with_reducible refine below_go ?_ (by with_reducible assumption)) | (with_reducible refine below_new ?_ _) | ((with_reducible refine below_put ?_ ?_ _); rotate_left; (dsimp only; omega)) | (with_reducible refine Below.drew ?_) | (with_reducible refine below_dn ?_ _)))⟩
        · have hlt : e < sdP a c := by omega
          have hn := HA.out e hlt
          have hq : ∀ w, (binOp .eql 27 (.agg #[.int .i64 ((slB (formB oneB a) e) 0), .int .i64 ((slB (formB oneB a) e) 1), .int .i64 ((slB (formB oneB a) e) 2), .int .i64 ((slB (formB oneB a) e) 3), .int .i64 ((slB (formB oneB a) e) 4), .int .i64 ((slB (formB oneB a) e) 5), .int .i64 ((slB (formB oneB a) e) 6), .int .i64 ((slB (formB oneB a) e) 7), .int .i64 ((slB (formB oneB a) e) 8), .int .i64 ((slB (formB oneB a) e) 9), .int .i64 ((slB (formB oneB a) e) 10), .int .i64 ((slB (formB oneB a) e) 11), .int .i64 ((slB (formB oneB a) e) 12), .int .i64 ((slB (formB oneB a) e) 13), .int .i64 ((slB (formB oneB a) e) 14), .int .i64 ((slB (formB oneB a) e) 15)]) (.agg #[.int .i64 ((formB (slB oneB c) a) 0), .int .i64 ((formB (slB oneB c) a) 1), .int .i64 ((formB (slB oneB c) a) 2), .int .i64 ((formB (slB oneB c) a) 3), .int .i64 ((formB (slB oneB c) a) 4), .int .i64 ((formB (slB oneB c) a) 5), .int .i64 ((formB (slB oneB c) a) 6), .int .i64 ((formB (slB oneB c) a) 7), .int .i64 ((formB (slB oneB c) a) 8), .int .i64 ((formB (slB oneB c) a) 9), .int .i64 ((formB (slB oneB c) a) 10), .int .i64 ((formB (slB oneB c) a) 11), .int .i64 ((formB (slB oneB c) a) 12), .int .i64 ((formB (slB oneB c) a) 13), .int .i64 ((formB (slB oneB c) a) 14), .int .i64 ((formB (slB oneB c) a) 15)])).run Try.prog w = .ok (.bool false) w := fun w => by rw [run_eql_Board, hn]
          clear hn
          go_region_held3 (fun w' => (∀ o, o < 16 → w'.cell? ⟨B1, o, none⟩ = some (.int .i64 (slB oneB c o))) ∧ (∀ o, o < 16 → w'.cell? ⟨B2, o, none⟩ = some (.int .i64 (slB (formB oneB a) e o)))) (first
            | (with_reducible exact keepS j0 k0)
            | (with_reducible exact keepS (Has.drew j0) (Has.drew k0)))
            (first | (go_at_call 63; (with_reducible refine (form_any _ _ ha _).mono ?_); rintro e w2 ⟨rfl, hb2⟩; have hB' : Below w.heap.size w w2 := below_go (by repeat (first | (with_reducible exact Below.refl _ _) | (with_reducible assumption) | (with_reducible refine below_go ?_ (by with_reducible assumption)) | (with_reducible refine below_new ?_ _) | ((with_reducible refine below_put ?_ ?_ _); rotate_left; (dsimp only; omega)) | (with_reducible refine Below.drew ?_) | (with_reducible refine below_dn ?_ _))) hb2; have i0' : Has w2 (w.heap.size) 16 _ := Has.call (by repeat (first | (with_reducible assumption) | (with_reducible apply Has.set) | ((with_reducible apply Has.other); (case hne => (dsimp only; omega))) | (with_reducible apply Has.alloc) | (with_reducible apply Has.drew) | (with_reducible apply Has.drewN))) hb2; have j0' : Has w2 (B1) 16 _ := Has.call (by repeat (first | (with_reducible assumption) | (with_reducible apply Has.set) | ((with_reducible apply Has.other); (case hne => (dsimp only; omega))) | (with_reducible apply Has.alloc) | (with_reducible apply Has.drew) | (with_reducible apply Has.drewN))) hb2; have k0' : Has w2 (B2) 16 _ := Has.call (by repeat (first | (with_reducible assumption) | (with_reducible apply Has.set) | ((with_reducible apply Has.other); (case hne => (dsimp only; omega))) | (with_reducible apply Has.alloc) | (with_reducible apply Has.drew) | (with_reducible apply Has.drewN))) hb2; clear hB hb2; have hB := hB'; clear hB'; (try clear fi0); (try clear zi0); (try clear ci0); clear i0; have i0 := i0'; clear i0'; have ci0 := i0.1; have fi0 := i0.2.1; have zi0 := i0.2.2; (try clear fj0); (try clear zj0); (try clear cj0); clear j0; have j0 := j0'; clear j0'; have cj0 := j0.1; have fj0 := j0.2.1; have zj0 := j0.2.2; (try clear fk0); (try clear zk0); (try clear ck0); clear k0; have k0 := k0'; clear k0'; have ck0 := k0.1; have fk0 := k0.2.1; have zk0 := k0.2.2) | fail)
          all_goals
            go_wp2
            go_roundw
            case rel => exact ⟨e + 1, by omega, by go_num, (by repeat (first | (with_reducible exact Below.refl _ _) | (with_reducible assumption) | (with_reducible refine below_go ?_ (by with_reducible assumption)) | (with_reducible refine below_new ?_ _) | ((with_reducible refine below_put ?_ ?_ _); rotate_left; (dsimp only; omega)) | (with_reducible refine Below.drew ?_) | (with_reducible refine below_dn ?_ _))), (by repeat (first | (with_reducible assumption) | (with_reducible apply Has.set) | ((with_reducible apply Has.other); (case hne => (dsimp only; omega))) | (with_reducible apply Has.alloc) | (with_reducible apply Has.drew) | (with_reducible apply Has.drewN))), (by repeat (first | (with_reducible assumption) | (with_reducible apply Has.set) | ((with_reducible apply Has.other); (case hne => (dsimp only; omega))) | (with_reducible apply Has.alloc) | (with_reducible apply Has.drew) | (with_reducible apply Has.drewN)))⟩
            case measure => simp [intOf]; omega

set_option maxHeartbeats 8000000 in
set_option maxRecDepth 100000 in
theorem specFormSide_any (k d : Int) (w : World) : Calls Try.prog 18 #[.int .i64 k, .int .i64 d] w fun e w' => e = .returned (.tuple #[.int .i64 (zr (inB k 0 7 && inB d 0 3) (sdS k.toNat d.toNat)), .bool (inB k 0 7 && inB d 0 3)]) ∧ Below w.heap.size w w' := by
  cases hk : inB k 0 7
  · simp only [Bool.false_and, zr_false]
    go_enter Try.func18, Try.ntmps18
    go_wp2_with (first | (go_at_call 65; refine (l3Form_any _ _).mono ?_; rintro e w1 ⟨rfl, rfl⟩) | (go_at_call 75; refine (l2Side_any _ _).mono ?_; rintro e w1 ⟨rfl, rfl⟩))
    go_ret2
    exact ⟨rfl, (by repeat (first | (with_reducible exact Below.refl _ _) | (with_reducible assumption) | (with_reducible refine below_go ?_ (by with_reducible assumption)) | (with_reducible refine below_new ?_ _) | ((with_reducible refine below_put ?_ ?_ _); rotate_left; (dsimp only; omega)) | (with_reducible refine Below.drew ?_) | (with_reducible refine below_dn ?_ _)))⟩
  · cases hd : inB d 0 3
    · simp only [Bool.and_false, zr_false]
      go_enter Try.func18, Try.ntmps18
      go_wp2_with (first | (go_at_call 65; refine (l3Form_any _ _).mono ?_; rintro e w1 ⟨rfl, rfl⟩) | (go_at_call 75; refine (l2Side_any _ _).mono ?_; rintro e w1 ⟨rfl, rfl⟩))
      go_ret2
      exact ⟨rfl, (by repeat (first | (with_reducible exact Below.refl _ _) | (with_reducible assumption) | (with_reducible refine below_go ?_ (by with_reducible assumption)) | (with_reducible refine below_new ?_ _) | ((with_reducible refine below_put ?_ ?_ _); rotate_left; (dsimp only; omega)) | (with_reducible refine Below.drew ?_) | (with_reducible refine below_dn ?_ _)))⟩
    · obtain ⟨a, ha, rfl⟩ := form_nat hk
      obtain ⟨c, hc, rfl⟩ := dir_nat hd
      simp only [Bool.and_self, zr_true, Int.toNat_natCast]
      rcases k8 ha with rfl | rfl | rfl | rfl | rfl | rfl | rfl | rfl <;> rcases d4 hc with rfl | rfl | rfl | rfl
      all_goals
        clear ha hc
        go_enter Try.func18, Try.ntmps18
        go_wp2_with (first | (go_at_call 65; refine (l3Form_any _ _).mono ?_; rintro e w1 ⟨rfl, rfl⟩) | (go_at_call 75; refine (l2Side_any _ _).mono ?_; rintro e w1 ⟨rfl, rfl⟩))
        go_ret2
        exact ⟨rfl, (by repeat (first | (with_reducible exact Below.refl _ _) | (with_reducible assumption) | (with_reducible refine below_go ?_ (by with_reducible assumption)) | (with_reducible refine below_new ?_ _) | ((with_reducible refine below_put ?_ ?_ _); rotate_left; (dsimp only; omega)) | (with_reducible refine Below.drew ?_) | (with_reducible refine below_dn ?_ _)))⟩

end Go.Proofs.Ytegdnfmhhigjfaa
