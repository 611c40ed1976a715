/-
  Contract: DoSlides, the program's, at a board and directions.
-/
import Derived.Test.YtjnmdhnckmmdnaaDoSlA
namespace Go.Proofs.Ytjnmdhnckmmdnaa
open Go.RowKit

set_option maxHeartbeats 8000000 in
set_option maxRecDepth 100000 in
theorem doSlides_yes (b : Nat → Int) (x : Nat → Int) (g n cap : Nat) (hn : n ≤ 1048576) (hb : bdB b = true) (hd : dirsX x n = true) (w : World) (hH : Has w g n (fun o => .int .i64 (x o))) :
    Calls Try.prog 80 #[.agg #[.int .i64 (b 0), .int .i64 (b 1), .int .i64 (b 2), .int .i64 (b 3), .int .i64 (b 4), .int .i64 (b 5), .int .i64 (b 6), .int .i64 (b 7), .int .i64 (b 8), .int .i64 (b 9), .int .i64 (b 10), .int .i64 (b 11), .int .i64 (b 12), .int .i64 (b 13), .int .i64 (b 14), .int .i64 (b 15)], .slice (some ⟨g, 0, none⟩) n cap] w fun e w' => e = .returned (.tuple #[.agg #[.int .i64 ((slL b (lsX x n)) 0), .int .i64 ((slL b (lsX x n)) 1), .int .i64 ((slL b (lsX x n)) 2), .int .i64 ((slL b (lsX x n)) 3), .int .i64 ((slL b (lsX x n)) 4), .int .i64 ((slL b (lsX x n)) 5), .int .i64 ((slL b (lsX x n)) 6), .int .i64 ((slL b (lsX x n)) 7), .int .i64 ((slL b (lsX x n)) 8), .int .i64 ((slL b (lsX x n)) 9), .int .i64 ((slL b (lsX x n)) 10), .int .i64 ((slL b (lsX x n)) 11), .int .i64 ((slL b (lsX x n)) 12), .int .i64 ((slL b (lsX x n)) 13), .int .i64 ((slL b (lsX x n)) 14), .int .i64 ((slL b (lsX x n)) 15)], .int .i64 (scL b (lsX x n) n), .bool true]) ∧ Below w.heap.size w w' := by
  have HS := hide hH
  have HB := hide (bdB_in hb)
  have HL := hide (lsX_dirs hd)
  have HLn := hide (lsX_len x n)
  have HG := hide (fun k (hk : k < n) => lsX_get x hk)
  have HD := hide (fun k (hk : k < n) => inB_03 (dirsX_iff.1 hd k hk))
  clear hH
  generalize hl : lsX x n = l at *
  clear hl
  go_enter Try.func80, Try.ntmps80
  go_upto_region 1 with (fail)
  generalize hW : (w.alloc _).alloc _ = w1
  have hB : Below w.heap.size w w1 := by (rw [← hW]; exact (by repeat (first | (with_reducible exact Below.refl _ _) | (with_reducible assumption) | (with_reducible refine below_go ?_ (by with_reducible assumption)) | (with_reducible refine below_new ?_ _) | ((with_reducible refine below_put ?_ ?_ _); rotate_left; (dsimp only; omega)) | (with_reducible refine Below.drew ?_) | (with_reducible refine below_dn ?_ _))))
  have hsz : Hid (w1.heap.size = w.heap.size + 1 + 1) := hide (by rw [← hW]; simp)
  have i0 : Has w1 (w.heap.size) 16 (fun o => .int .i64 (b o)) := by (rw [← hW]; repeat (first | (refine Has.new ?_ rfl; simp; done) | refine Has.alloc ?_ _))
  have ci0 := i0.1; have fi0 := i0.2.1; have zi0 := i0.2.2
  have i1 : Has w1 (w.heap.size + 1) 16 (fun _ => .int .i64 0) := by (rw [← hW]; repeat (first | (refine Has.new ?_ rfl; simp; done) | refine Has.alloc ?_ _))
  have ci1 := i1.1; have fi1 := i1.2.1; have zi1 := i1.2.2
  clear hW
  go_upto_region 5 with (first | (go_at_call 91; (with_reducible refine (Calls.bool_as (isBoard_any b _) hb).mono ?_); rintro e w2 ⟨rfl, hb2⟩; have hB' : Below w.heap.size w w2 := below_go (by repeat (first | (with_reducible exact Below.refl _ _) | (with_reducible assumption) | (with_reducible refine below_go ?_ (by with_reducible assumption)) | (with_reducible refine below_new ?_ _) | ((with_reducible refine below_put ?_ ?_ _); rotate_left; (dsimp only; omega)) | (with_reducible refine Below.drew ?_) | (with_reducible refine below_dn ?_ _))) hb2; have i0' : Has w2 (w.heap.size) 16 _ := Has.call (by repeat (first | (with_reducible assumption) | (with_reducible apply Has.set) | ((with_reducible apply Has.other); (case hne => (dsimp only; omega))) | (with_reducible apply Has.alloc) | (with_reducible apply Has.drew) | (with_reducible apply Has.drewN))) hb2; have i1' : Has w2 (w.heap.size + 1) 16 _ := Has.call (by repeat (first | (with_reducible assumption) | (with_reducible apply Has.set) | ((with_reducible apply Has.other); (case hne => (dsimp only; omega))) | (with_reducible apply Has.alloc) | (with_reducible apply Has.drew) | (with_reducible apply Has.drewN))) hb2; clear hB hb2; have hB := hB'; clear hB'; (try clear fi0); (try clear zi0); (try clear ci0); clear i0; have i0 := i0'; clear i0'; have ci0 := i0.1; have fi0 := i0.2.1; have zi0 := i0.2.2; (try clear fi1); (try clear zi1); (try clear ci1); clear i1; have i1 := i1'; clear i1'; have ci1 := i1.1; have fi1 := i1.2.1; have zi1 := i1.2.2) | (go_at_call 130; refine (Calls.bool_eq (areDirections_any g n cap x _ hn (HS.out.call hB)) hd).mono ?_; rintro e w1 ⟨rfl, rfl⟩) | (refine load_Board rfl _ rfl _ _ rfl (by repeat (first | (with_reducible assumption) | (with_reducible apply Has.set) | ((with_reducible apply Has.other); (case hne => (dsimp only; omega))) | (with_reducible apply Has.alloc) | (with_reducible apply Has.drew) | (with_reducible apply Has.drewN))) (by omega) ?_))
  have i0 : Has w2 w.heap.size 16 (fun o => .int .i64 (slL b (l.take 0) o)) := i0
  clear hd hb
  (try clear ci0); (try clear fi0); (try clear zi0); (try clear ci1); (try clear fi1); (try clear zi1); (try clear hsz)
  go_loopw [7, 24] (fun s v wr => ∃ k : Nat, k ≤ n ∧ v = .int .i64 k ∧ s = .int .i64 (scL b l k) ∧ Below w.heap.size w wr ∧ Has wr w.heap.size 16 (fun o => .int .i64 (slL b (l.take k) o)) ∧ Has wr (w.heap.size + 1) 16 (fun _ => .int .i64 0)) (fun _ i _ => n - (intOf i).toNat)
  case atStart => exact ⟨0, by omega, rfl, rfl, hB, i0, i1⟩
  case round =>
    clear hB i0 i1
    obtain ⟨k, hk, rfl, rfl, hB, i0, i1⟩ := hrel
    obtain ⟨s0, s1⟩ := scL_le HB.out l k
    by_cases hlt : k < n
    · obtain ⟨d0, d1⟩ := HD.out k hlt
      have hgk := HG.out k hlt
      obtain ⟨xn, hxn⟩ : ∃ xn : Nat, x k = (xn : Int) := ⟨(x k).toNat, by omega⟩
      have hx4 : xn < 4 := by omega
      have HGK : Hid (l.getD k 0 = xn) := by rw [hgk, hxn]; rfl
      have HI := hide (slL_in HB.out (l.take k))
      have HN := hide (slL_snoc b l (k := k) (by rw [HLn.out]; exact hlt))
      have HSC : Hid (scL b l (k + 1) = scL b l k + scTo (slL b (l.take k)) xn 4) := by show scL b l k + _ = _; rw [HGK.out]
      obtain ⟨e0, e1⟩ := scTo_le (d := xn) HI.out 4 (by omega)
      generalize hsc : scTo (slL b (l.take k)) xn 4 = sc at *
      have HSQ := hide hsc
      have q1 : wr.cell? ⟨g, k, none⟩ = some (.int .i64 (xn : Int)) := by rw [← hxn]; exact (HS.out.call hB).1 k hlt
      have a1 : (0 : Int) ≤ k := by omega
      have a2 : (k : Int) < n := by omega
      have s2 : scL b l k ≤ 4398046511104 := by omega
      have hsl := slide_any (slL b (l.take k)) HI.out xn hx4
      rw [hsc] at hsl
      have HSL := hide hsl
      clear hsc hgk hxn d0 d1 s1 hsl
      have zi0 := i0.2.2; have zi1 := i1.2.2
      go_upto_region 8 with (first | (go_at_call 114; (with_reducible refine (HSL.out _).mono ?_); rintro e w2 ⟨rfl, hb2⟩; have hB' : Below w.heap.size w w2 := below_go (by repeat (first | (with_reducible exact Below.refl _ _) | (with_reducible assumption) | (with_reducible refine below_go ?_ (by with_reducible assumption)) | (with_reducible refine below_new ?_ _) | ((with_reducible refine below_put ?_ ?_ _); rotate_left; (dsimp only; omega)) | (with_reducible refine Below.drew ?_) | (with_reducible refine below_dn ?_ _))) hb2; have i0' : Has w2 (w.heap.size) 16 _ := Has.call (by repeat (first | (with_reducible assumption) | (with_reducible apply Has.set) | ((with_reducible apply Has.other); (case hne => (dsimp only; omega))) | (with_reducible apply Has.alloc) | (with_reducible apply Has.drew) | (with_reducible apply Has.drewN))) hb2; have i1' : Has w2 (w.heap.size + 1) 16 _ := Has.call (by repeat (first | (with_reducible assumption) | (with_reducible apply Has.set) | ((with_reducible apply Has.other); (case hne => (dsimp only; omega))) | (with_reducible apply Has.alloc) | (with_reducible apply Has.drew) | (with_reducible apply Has.drewN))) hb2; clear hB hb2; have hB := hB'; clear hB'; (try clear fi0); (try clear zi0); (try clear ci0); clear i0; have i0 := i0'; clear i0'; have ci0 := i0.1; have fi0 := i0.2.1; have zi0 := i0.2.2; (try clear fi1); (try clear zi1); (try clear ci1); clear i1; have i1 := i1'; clear i1'; have ci1 := i1.1; have fi1 := i1.2.1; have zi1 := i1.2.2) | (refine load_Board rfl _ rfl _ _ rfl (by repeat (first | (with_reducible assumption) | (with_reducible apply Has.set) | ((with_reducible apply Has.other); (case hne => (dsimp only; omega))) | (with_reducible apply Has.alloc) | (with_reducible apply Has.drew) | (with_reducible apply Has.drewN))) (by omega) ?_) | (refine store_BoardF rfl _ _ rfl _ _ rfl rfl (Has.new' (n := 16) rfl) ?_; intro w3 ho3 hn3; have hB' : Below w.heap.size w w3 := below_only (below_new hB _) ho3 (by omega); have i0' := Has.only (Has.alloc i0 _) ho3 (by omega); have i1' := Has.only (Has.alloc i1 _) ho3 (by omega); have hzj0 := zi1; clear ho3; have j0 := hn3; clear hn3; clear hB; have hB := hB'; clear hB'; (try clear fi0); (try clear zi0); (try clear ci0); clear i0; have i0 := i0'; clear i0'; have ci0 := i0.1; have fi0 := i0.2.1; have zi0 := i0.2.2; (try clear fi1); (try clear zi1); (try clear ci1); clear i1; have i1 := i1'; clear i1'; have ci1 := i1.1; have fi1 := i1.2.1; have zi1 := i1.2.2; have cj0 := j0.1; have fj0 := j0.2.1; have zj0 := j0.2.2; generalize hS : (World.heap w2).size = B2 at *; clear hS))
      go_wp2_with (first | (refine load_Board rfl _ rfl _ _ rfl (by repeat (first | (with_reducible assumption) | (with_reducible apply Has.set) | ((with_reducible apply Has.other); (case hne => (dsimp only; omega))) | (with_reducible apply Has.alloc) | (with_reducible apply Has.drew) | (with_reducible apply Has.drewN))) (by omega) ?_) | (refine store_BoardF rfl _ _ rfl _ _ rfl rfl (by repeat (first | (with_reducible assumption) | (with_reducible apply Has.set) | ((with_reducible apply Has.other); (case hne => (dsimp only; omega))) | (with_reducible apply Has.alloc) | (with_reducible apply Has.drew) | (with_reducible apply Has.drewN))) ?_; intro w3 ho3 hn3; have hB' : Below w.heap.size w w3 := below_only (by repeat (first | (with_reducible exact Below.refl _ _) | (with_reducible assumption) | (with_reducible refine below_go ?_ (by with_reducible assumption)) | (with_reducible refine below_new ?_ _) | ((with_reducible refine below_put ?_ ?_ _); rotate_left; (dsimp only; omega)) | (with_reducible refine Below.drew ?_) | (with_reducible refine below_dn ?_ _))) ho3 (by omega); have i0' : Has w3 (w.heap.size) 16 _ := (by first | (with_reducible exact hn3) | exact Has.only (by repeat (first | (with_reducible assumption) | (with_reducible apply Has.set) | ((with_reducible apply Has.other); (case hne => (dsimp only; omega))) | (with_reducible apply Has.alloc) | (with_reducible apply Has.drew) | (with_reducible apply Has.drewN))) ho3 (by omega)); have i1' : Has w3 (w.heap.size + 1) 16 _ := (by first | (with_reducible exact hn3) | exact Has.only (by repeat (first | (with_reducible assumption) | (with_reducible apply Has.set) | ((with_reducible apply Has.other); (case hne => (dsimp only; omega))) | (with_reducible apply Has.alloc) | (with_reducible apply Has.drew) | (with_reducible apply Has.drewN))) ho3 (by omega)); have j0' : Has w3 (B2) 16 _ := (by first | (with_reducible exact hn3) | exact Has.only (by repeat (first | (with_reducible assumption) | (with_reducible apply Has.set) | ((with_reducible apply Has.other); (case hne => (dsimp only; omega))) | (with_reducible apply Has.alloc) | (with_reducible apply Has.drew) | (with_reducible apply Has.drewN))) ho3 (by omega)); clear ho3 hn3; clear hB; have hB := hB'; clear hB'; (try clear fi0); (try clear zi0); (try clear ci0); clear i0; have i0 := i0'; clear i0'; have ci0 := i0.1; have fi0 := i0.2.1; have zi0 := i0.2.2; (try clear fi1); (try clear zi1); (try clear ci1); clear i1; have i1 := i1'; clear i1'; have ci1 := i1.1; have fi1 := i1.2.1; have zi1 := i1.2.2; (try clear fj0); (try clear zj0); (try clear cj0); clear j0; have j0 := j0'; clear j0'; have cj0 := j0.1; have fj0 := j0.2.1; have zj0 := j0.2.2))
      go_roundw
      case rel => exact ⟨k + 1, by omega, by go_num, by rw [HSC.out], hB, by rw [HN.out, HGK.out]; exact i0, i1⟩
      case measure => simp [intOf]; omega
    · obtain rfl : k = n := by omega
      have i0 : Has wr w.heap.size 16 (fun o => .int .i64 (slL b l o)) := by rw [← HLn.out, List.take_length] at i0; exact i0
      have zi0 := i0.2.2; have zi1 := i1.2.2
      go_wp2_with (first | (refine load_Board rfl _ rfl _ _ rfl (by repeat (first | (with_reducible assumption) | (with_reducible apply Has.set) | ((with_reducible apply Has.other); (case hne => (dsimp only; omega))) | (with_reducible apply Has.alloc) | (with_reducible apply Has.drew) | (with_reducible apply Has.drewN))) (by omega) ?_) | (refine store_BoardF rfl _ _ rfl _ _ rfl rfl (by repeat (first | (with_reducible assumption) | (with_reducible apply Has.set) | ((with_reducible apply Has.other); (case hne => (dsimp only; omega))) | (with_reducible apply Has.alloc) | (with_reducible apply Has.drew) | (with_reducible apply Has.drewN))) ?_; intro w3 ho3 hn3; have hB' : Below w.heap.size w w3 := below_only (by repeat (first | (with_reducible exact Below.refl _ _) | (with_reducible assumption) | (with_reducible refine below_go ?_ (by with_reducible assumption)) | (with_reducible refine below_new ?_ _) | ((with_reducible refine below_put ?_ ?_ _); rotate_left; (dsimp only; omega)) | (with_reducible refine Below.drew ?_) | (with_reducible refine below_dn ?_ _))) ho3 (by omega); have i0' : Has w3 (w.heap.size) 16 _ := (by first | (with_reducible exact hn3) | exact Has.only (by repeat (first | (with_reducible assumption) | (with_reducible apply Has.set) | ((with_reducible apply Has.other); (case hne => (dsimp only; omega))) | (with_reducible apply Has.alloc) | (with_reducible apply Has.drew) | (with_reducible apply Has.drewN))) ho3 (by omega)); have i1' : Has w3 (w.heap.size + 1) 16 _ := (by first | (with_reducible exact hn3) | exact Has.only (by repeat (first | (with_reducible assumption) | (with_reducible apply Has.set) | ((with_reducible apply Has.other); (case hne => (dsimp only; omega))) | (with_reducible apply Has.alloc) | (with_reducible apply Has.drew) | (with_reducible apply Has.drewN))) ho3 (by omega)); clear ho3 hn3; clear hB; have hB := hB'; clear hB'; (try clear fi0); (try clear zi0); (try clear ci0); clear i0; have i0 := i0'; clear i0'; have ci0 := i0.1; have fi0 := i0.2.1; have zi0 := i0.2.2; (try clear fi1); (try clear zi1); (try clear ci1); clear i1; have i1 := i1'; clear i1'; have ci1 := i1.1; have fi1 := i1.2.1; have zi1 := i1.2.2))
      refine bodyPost_ret (results_cell_tt rfl rfl (loadVar_Board i1 (by omega))) rfl ⟨rfl, (by repeat (first | (with_reducible exact Below.refl _ _) | (with_reducible assumption) | (with_reducible refine below_go ?_ (by with_reducible assumption)) | (with_reducible refine below_new ?_ _) | ((with_reducible refine below_put ?_ ?_ _); rotate_left; (dsimp only; omega)) | (with_reducible refine Below.drew ?_) | (with_reducible refine below_dn ?_ _)))⟩

theorem doSlides_any (b : Nat → Int) (x : Nat → Int) (g n cap : Nat) (hn : n ≤ 1048576) (F : Nat → Int) (s : Int) (ok : Bool) (hF : DsIs b x n F s ok) (w : World) (hH : Has w g n (fun o => .int .i64 (x o))) :
    Calls Try.prog 80 #[.agg #[.int .i64 (b 0), .int .i64 (b 1), .int .i64 (b 2), .int .i64 (b 3), .int .i64 (b 4), .int .i64 (b 5), .int .i64 (b 6), .int .i64 (b 7), .int .i64 (b 8), .int .i64 (b 9), .int .i64 (b 10), .int .i64 (b 11), .int .i64 (b 12), .int .i64 (b 13), .int .i64 (b 14), .int .i64 (b 15)], .slice (some ⟨g, 0, none⟩) n cap] w fun e w' => e = .returned (.tuple #[.agg #[.int .i64 (F 0), .int .i64 (F 1), .int .i64 (F 2), .int .i64 (F 3), .int .i64 (F 4), .int .i64 (F 5), .int .i64 (F 6), .int .i64 (F 7), .int .i64 (F 8), .int .i64 (F 9), .int .i64 (F 10), .int .i64 (F 11), .int .i64 (F 12), .int .i64 (F 13), .int .i64 (F 14), .int .i64 (F 15)], .int .i64 s, .bool ok]) ∧ Below w.heap.size w w' := by
  obtain ⟨rfl, rfl, rfl⟩ := hF
  cases h : dsOk b x n
  · have := doSlides_no b x g n cap hn h w hH
    simp only [dsB, dsS, h, bz, zr]
    exact this
  · have h2 := h
    simp only [dsOk, Bool.and_eq_true] at h2
    have := doSlides_yes b x g n cap hn h2.1 h2.2 w hH
    simp only [dsB, dsS, h, bz, zr]
    exact this

end Go.Proofs.Ytjnmdhnckmmdnaa
