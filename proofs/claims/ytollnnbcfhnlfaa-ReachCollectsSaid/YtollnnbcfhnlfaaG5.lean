/- reach, part G5 of the hand texts (So, Sc, Ci): what each part says stands at its head. -/
import Derived.Test.YtollnnbcfhnlfaaSh
import Derived.Test.YtollnnbcfhnlfaaG4
import Derived.Test.YtollnnbcfhnlfaaSf
import Derived.Sort.OwnSortedInts
/- reach: the order of what is to be finalised, and the sort that Collect asks for. -/
set_option linter.unusedVariables false
set_option linter.unusedSimpArgs false
namespace Go.Proofs.Ytollnnbcfhnlfaa.Rg
open Go.Proofs.Ytollnnbcfhnlfaa.Sh
open Go.RowKit Go.Proofs.Ytollnnbcfhnlfaa.QR Go.Proofs.YtollnnbcfhnlfaaW.PrintWords Go.Proofs.YtollnnbcfhnlfaaW.PrintLast Go.Proofs.YtollnnbcfhnlfaaW.PrintMore Go.Shelf Go.Sort
def finF (th : List S43) (x : Int) : Int := (rd_T43 th (x - 1)).f4
/-- the later mark comes first; where marks are alike, the greater handle -/
def cfI (th : List S43) (x y : Int) : Int := if finF th x ≠ finF th y then (if finF th y < finF th x then -1 else 1) else y - x
def ltI (th : List S43) (x y : Int) : Bool := decide (cfI th x y < 0)
def sortF (th : List S43) (l : List Int) : List Int := l.mergeSort (fun x y => !(ltI th y x))
set_option maxHeartbeats 8000000 in
set_option maxRecDepth 100000 in
theorem cmp_calls (W w : World) (bx : Nat) (A0 : Option Addr) (c0 : Nat) (th : List S43) (b0 : w.cell? ⟨bx, 0, none⟩ = some (.slice A0 th.length c0)) (hC : Kd.C k43 w A0 th.length th) (hm : th.length ≤ 1000000) (x y : Int) (hx : 1 ≤ x ∧ x ≤ th.length) (hy : 1 ≤ y ∧ y ≤ th.length) :
  Calls Try.prog 36 #[.int .i64 x, .int .i64 y, .pointer (some ⟨bx, 0, none⟩)] w fun e w' => e = .returned (.int .i64 (cfI th x y)) ∧ ∃ q os', w' = grow (w.drewN q) os' := by
 obtain ⟨xi, hxi⟩ : ∃ v : Int, x - 1 = v := ⟨_, rfl⟩
 obtain ⟨yi, hyi⟩ : ∃ v : Int, y - 1 = v := ⟨_, rfl⟩
 have ex : IntKind.i64.wrap (x - 1) = xi := (i64_w _).trans ((w64i_ (by omega) (by omega)).trans hxi)
 have ey : IntKind.i64.wrap (y - 1) = yi := (i64_w _).trans ((w64i_ (by omega) (by omega)).trans hyi)
 have eyx : IntKind.i64.wrap (y - x) = y - x := (i64_w _).trans (w64i_ (by omega) (by omega))
 obtain ⟨ad, A3, c3, hA, _, _, _, _, x4, _, _⟩ := at_T43 hC xi (by omega) (by omega)
 subst hA
 obtain ⟨ad', A3', c3', hA', _, _, _, _, y4, _, _⟩ := at_T43 hC yi (by omega) (by omega)
 cases hA'
 obtain ⟨fx, hfx⟩ : ∃ v, (rd_T43 th xi).f4 = v := ⟨_, rfl⟩
 obtain ⟨fy, hfy⟩ : ∃ v, (rd_T43 th yi).f4 = v := ⟨_, rfl⟩
 rw [hfx] at x4
 rw [hfy] at y4
 have x0 : (0 ≤ xi) = True := eq_true (by omega)
 have x1 : (xi < (th.length : Int)) = True := eq_true (by omega)
 have y0 : (0 ≤ yi) = True := eq_true (by omega)
 have y1 : (yi < (th.length : Int)) = True := eq_true (by omega)
 have FX := Aside0.mk (show finF th x = fx by unfold finF; rw [hxi]; exact hfx)
 have FY := Aside0.mk (show finF th y = fy by unfold finF; rw [hyi]; exact hfy)
 clear hC hm hx hy hxi hyi hfx hfy
 by_cases h1 : fx = fy
 ·have b1 : (fx != fy) = false := bne_eq_false_iff_eq.mpr h1
  have e : cfI th x y = y - x := by
   unfold cfI
   rw [FX.out, FY.out, if_neg (fun z => z h1)]
  rw [e]
  have H1 := Aside0.mk h1
  clear h1 e
  go_enter Try.func36, Try.ntmps36
  go_wp2
  refine start_ (n := 16) (S := fun w' : World => w'.cell? ⟨bx, 0, none⟩ = some (.slice (some ad) th.length c0) ∧ w'.cell? ⟨(ad.add (xi.toNat * 5)).block, (ad.add (xi.toNat * 5)).off + 4, none⟩ = some (.int .i64 fx) ∧ w'.cell? ⟨(ad.add (yi.toNat * 5)).block, (ad.add (yi.toNat * 5)).off + 4, none⟩ = some (.int .i64 fy)) (ds := []) (U 16 0) (by kernel_rfl) rfl rfl ⟨b0, x4, y4⟩ (fun hHeld => ?_)
  refine pure_ (i := 0) (N := some 8) (v := ?_) (a' := ?_) (U 16 1) rfl rfl (by kernel_rfl) (fun _ _ _ h => h) (Or.inl ⟨by rfl, ?_⟩) ?_ ?_
  rotate_left
  ·intro w'
   go_simp
   with_reducible rfl
  rotate_left
  ·simp only [Act.put, Sh.s1, Sh.s2, Sh.s3, i64_w, i32_w]
   rfl
  refine take_ (i := 1) (N := some 9) (v := ?_) (a' := ?_) (U 16 2) rfl rfl (by kernel_rfl) (fun _ _ _ h => h) (Or.inl ⟨by rfl, ?_⟩) hHeld ?_ ?_
  rotate_left
  ·rintro w' ⟨t0_, t1_, t2_⟩
   go_simp
   with_reducible rfl
  rotate_left
  ·simp only [Act.put, Sh.s1, Sh.s2, Sh.s3, i64_w, i32_w]
   rfl
  refine pure_ (i := 2) (N := some 10) (v := ?_) (a' := ?_) (U 16 3) rfl rfl (by kernel_rfl) (fun _ _ _ h => h) (Or.inl ⟨by rfl, ?_⟩) ?_ ?_
  rotate_left
  ·intro w'
   go_simp
   with_reducible rfl
  rotate_left
  ·simp only [Act.put, Sh.s1, Sh.s2, Sh.s3, i64_w, i32_w]
   rfl
  refine pure_ (i := 3) (N := some 11) (v := ?_) (a' := ?_) (U 16 4) rfl rfl (by kernel_rfl) (fun _ _ _ h => h) (Or.inl ⟨by rfl, ?_⟩) ?_ ?_
  rotate_left
  ·intro w'
   go_simp
   with_reducible rfl
  rotate_left
  ·simp only [Act.put, Sh.s1, Sh.s2, Sh.s3, i64_w, i32_w]
   rfl
  refine pure_ (i := 4) (N := some 12) (v := ?_) (a' := ?_) (U 16 5) rfl rfl (by kernel_rfl) (fun _ _ _ h => h) (Or.inl ⟨by rfl, ?_⟩) ?_ ?_
  rotate_left
  ·intro w'
   go_simp
   with_reducible rfl
  rotate_left
  ·simp only [Act.put, Sh.s1, Sh.s2, Sh.s3, i64_w, i32_w]
   rfl
  refine pure_ (i := 5) (N := some 13) (v := ?_) (a' := ?_) (U 16 6) rfl rfl (by kernel_rfl) (fun _ _ _ h => h) (Or.inl ⟨by rfl, ?_⟩) ?_ ?_
  rotate_left
  ·intro w'
   go_simp
   with_reducible rfl
  rotate_left
  ·simp only [Act.put, Sh.s1, Sh.s2, Sh.s3, i64_w, i32_w]
   rfl
  refine take_ (i := 6) (N := some 14) (v := ?_) (a' := ?_) (U 16 7) rfl rfl (by kernel_rfl) (fun _ _ _ h => h) (Or.inl ⟨by rfl, ?_⟩) hHeld ?_ ?_
  rotate_left
  ·rintro w' ⟨t0_, t1_, t2_⟩
   go_simp
   with_reducible rfl
  rotate_left
  ·simp only [Act.put, Sh.s1, Sh.s2, Sh.s3, i64_w, i32_w]
   rfl
  refine pure_ (i := 7) (N := some 15) (v := ?_) (a' := ?_) (U 16 8) rfl rfl (by kernel_rfl) (fun _ _ _ h => h) (Or.inl ⟨by rfl, ?_⟩) ?_ ?_
  rotate_left
  ·intro w'
   go_simp
   with_reducible rfl
  rotate_left
  ·simp only [Act.put, Sh.s1, Sh.s2, Sh.s3, i64_w, i32_w]
   rfl
  refine take_ (i := 8) (N := some 16) (v := ?_) (a' := ?_) (U 16 9) rfl rfl (by kernel_rfl) (fun _ _ _ h => h) (Or.inl ⟨by rfl, ?_⟩) hHeld ?_ ?_
  rotate_left
  ·rintro w' ⟨t0_, t1_, t2_⟩
   go_simp
   with_reducible rfl
  rotate_left
  ·simp only [Act.put, Sh.s1, Sh.s2, Sh.s3, i64_w, i32_w]
   rfl
  refine pure_ (i := 9) (N := some 17) (v := ?_) (a' := ?_) (U 16 10) rfl rfl (by kernel_rfl) (fun _ _ _ h => h) (Or.inl ⟨by rfl, ?_⟩) ?_ ?_
  rotate_left
  ·intro w'
   go_simp
   with_reducible rfl
  rotate_left
  ·simp only [Act.put, Sh.s1, Sh.s2, Sh.s3, i64_w, i32_w]
   rfl
  refine pure_ (i := 10) (N := some 18) (v := ?_) (a' := ?_) (U 16 11) rfl rfl (by kernel_rfl) (fun _ _ _ h => h) (Or.inl ⟨by rfl, ?_⟩) ?_ ?_
  rotate_left
  ·intro w'
   go_simp
   with_reducible rfl
  rotate_left
  ·simp only [Act.put, Sh.s1, Sh.s2, Sh.s3, i64_w, i32_w]
   rfl
  refine pure_ (i := 11) (N := some 19) (v := ?_) (a' := ?_) (U 16 12) rfl rfl (by kernel_rfl) (fun _ _ _ h => h) (Or.inl ⟨by rfl, ?_⟩) ?_ ?_
  rotate_left
  ·intro w'
   go_simp
   with_reducible rfl
  rotate_left
  ·simp only [Act.put, Sh.s1, Sh.s2, Sh.s3, i64_w, i32_w]
   rfl
  refine pure_ (i := 12) (N := some 20) (v := ?_) (a' := ?_) (U 16 13) rfl rfl (by kernel_rfl) (fun _ _ _ h => h) (Or.inl ⟨by rfl, ?_⟩) ?_ ?_
  rotate_left
  ·intro w'
   go_simp
   with_reducible rfl
  rotate_left
  ·simp only [Act.put, Sh.s1, Sh.s2, Sh.s3, i64_w, i32_w]
   rfl
  refine take_ (i := 13) (N := some 21) (v := ?_) (a' := ?_) (U 16 14) rfl rfl (by kernel_rfl) (fun _ _ _ h => h) (Or.inl ⟨by rfl, ?_⟩) hHeld ?_ ?_
  rotate_left
  ·rintro w' ⟨t0_, t1_, t2_⟩
   go_simp
   with_reducible rfl
  rotate_left
  ·simp only [Act.put, Sh.s1, Sh.s2, Sh.s3, i64_w, i32_w]
   rfl
  refine pure_ (i := 14) (N := some 6) (v := ?_) (a' := ?_) (U 16 15) rfl rfl (by kernel_rfl) (fun _ _ _ h => h) (Or.inl ⟨by rfl, ?_⟩) ?_ ?_
  rotate_left
  ·intro w'
   go_simp
   with_reducible rfl
  rotate_left
  ·simp only [Act.put, Sh.s1, Sh.s2, Sh.s3, i64_w, i32_w]
   rfl
  refine pure_ (i := 15) (N := some 7) (v := ?_) (a' := ?_) (U 16 16) rfl rfl (by kernel_rfl) (fun _ _ _ h => h) (Or.inl ⟨by rfl, ?_⟩) ?_ ?_
  rotate_left
  ·intro w'
   go_simp
   with_reducible rfl
  rotate_left
  ·simp only [Act.put, Sh.s1, Sh.s2, Sh.s3, i64_w, i32_w]
   rfl
  refine done_ (by kernel_rfl) ?_
  clear hHeld
  go_wp2
  go_ret
  exact ⟨rfl, 1, #[], by rw [grow_empty]; rfl⟩
 ·have b1 : (fx != fy) = true := bne_iff_ne.mpr h1
  by_cases h2 : fy < fx
  ·have b2 : decide (fy < fx) = true := decide_eq_true h2
   have e : cfI th x y = -1 := by
    unfold cfI
    rw [FX.out, FY.out, if_pos h1, if_pos h2]
   rw [e]
   clear h1 h2 e
   go_enter Try.func36, Try.ntmps36
   go_wp2
   refine start_ (n := 16) (S := fun w' : World => w'.cell? ⟨bx, 0, none⟩ = some (.slice (some ad) th.length c0) ∧ w'.cell? ⟨(ad.add (xi.toNat * 5)).block, (ad.add (xi.toNat * 5)).off + 4, none⟩ = some (.int .i64 fx) ∧ w'.cell? ⟨(ad.add (yi.toNat * 5)).block, (ad.add (yi.toNat * 5)).off + 4, none⟩ = some (.int .i64 fy)) (ds := []) (U 16 0) (by kernel_rfl) rfl rfl ⟨b0, x4, y4⟩ (fun hHeld => ?_)
   refine pure_ (i := 0) (N := some 8) (v := ?_) (a' := ?_) (U 16 1) rfl rfl (by kernel_rfl) (fun _ _ _ h => h) (Or.inl ⟨by rfl, ?_⟩) ?_ ?_
   rotate_left
   ·intro w'
    go_simp
    with_reducible rfl
   rotate_left
   ·simp only [Act.put, Sh.s1, Sh.s2, Sh.s3, i64_w, i32_w]
    rfl
   refine take_ (i := 1) (N := some 9) (v := ?_) (a' := ?_) (U 16 2) rfl rfl (by kernel_rfl) (fun _ _ _ h => h) (Or.inl ⟨by rfl, ?_⟩) hHeld ?_ ?_
   rotate_left
   ·rintro w' ⟨t0_, t1_, t2_⟩
    go_simp
    with_reducible rfl
   rotate_left
   ·simp only [Act.put, Sh.s1, Sh.s2, Sh.s3, i64_w, i32_w]
    rfl
   refine pure_ (i := 2) (N := some 10) (v := ?_) (a' := ?_) (U 16 3) rfl rfl (by kernel_rfl) (fun _ _ _ h => h) (Or.inl ⟨by rfl, ?_⟩) ?_ ?_
   rotate_left
   ·intro w'
    go_simp
    with_reducible rfl
   rotate_left
   ·simp only [Act.put, Sh.s1, Sh.s2, Sh.s3, i64_w, i32_w]
    rfl
   refine pure_ (i := 3) (N := some 11) (v := ?_) (a' := ?_) (U 16 4) rfl rfl (by kernel_rfl) (fun _ _ _ h => h) (Or.inl ⟨by rfl, ?_⟩) ?_ ?_
   rotate_left
   ·intro w'
    go_simp
    with_reducible rfl
   rotate_left
   ·simp only [Act.put, Sh.s1, Sh.s2, Sh.s3, i64_w, i32_w]
    rfl
   refine pure_ (i := 4) (N := some 12) (v := ?_) (a' := ?_) (U 16 5) rfl rfl (by kernel_rfl) (fun _ _ _ h => h) (Or.inl ⟨by rfl, ?_⟩) ?_ ?_
   rotate_left
   ·intro w'
    go_simp
    with_reducible rfl
   rotate_left
   ·simp only [Act.put, Sh.s1, Sh.s2, Sh.s3, i64_w, i32_w]
    rfl
   refine pure_ (i := 5) (N := some 13) (v := ?_) (a' := ?_) (U 16 6) rfl rfl (by kernel_rfl) (fun _ _ _ h => h) (Or.inl ⟨by rfl, ?_⟩) ?_ ?_
   rotate_left
   ·intro w'
    go_simp
    with_reducible rfl
   rotate_left
   ·simp only [Act.put, Sh.s1, Sh.s2, Sh.s3, i64_w, i32_w]
    rfl
   refine take_ (i := 6) (N := some 14) (v := ?_) (a' := ?_) (U 16 7) rfl rfl (by kernel_rfl) (fun _ _ _ h => h) (Or.inl ⟨by rfl, ?_⟩) hHeld ?_ ?_
   rotate_left
   ·rintro w' ⟨t0_, t1_, t2_⟩
    go_simp
    with_reducible rfl
   rotate_left
   ·simp only [Act.put, Sh.s1, Sh.s2, Sh.s3, i64_w, i32_w]
    rfl
   refine pure_ (i := 7) (N := some 15) (v := ?_) (a' := ?_) (U 16 8) rfl rfl (by kernel_rfl) (fun _ _ _ h => h) (Or.inl ⟨by rfl, ?_⟩) ?_ ?_
   rotate_left
   ·intro w'
    go_simp
    with_reducible rfl
   rotate_left
   ·simp only [Act.put, Sh.s1, Sh.s2, Sh.s3, i64_w, i32_w]
    rfl
   refine take_ (i := 8) (N := some 16) (v := ?_) (a' := ?_) (U 16 9) rfl rfl (by kernel_rfl) (fun _ _ _ h => h) (Or.inl ⟨by rfl, ?_⟩) hHeld ?_ ?_
   rotate_left
   ·rintro w' ⟨t0_, t1_, t2_⟩
    go_simp
    with_reducible rfl
   rotate_left
   ·simp only [Act.put, Sh.s1, Sh.s2, Sh.s3, i64_w, i32_w]
    rfl
   refine pure_ (i := 9) (N := some 17) (v := ?_) (a' := ?_) (U 16 10) rfl rfl (by kernel_rfl) (fun _ _ _ h => h) (Or.inl ⟨by rfl, ?_⟩) ?_ ?_
   rotate_left
   ·intro w'
    go_simp
    with_reducible rfl
   rotate_left
   ·simp only [Act.put, Sh.s1, Sh.s2, Sh.s3, i64_w, i32_w]
    rfl
   refine pure_ (i := 10) (N := some 18) (v := ?_) (a' := ?_) (U 16 11) rfl rfl (by kernel_rfl) (fun _ _ _ h => h) (Or.inl ⟨by rfl, ?_⟩) ?_ ?_
   rotate_left
   ·intro w'
    go_simp
    with_reducible rfl
   rotate_left
   ·simp only [Act.put, Sh.s1, Sh.s2, Sh.s3, i64_w, i32_w]
    rfl
   refine pure_ (i := 11) (N := some 19) (v := ?_) (a' := ?_) (U 16 12) rfl rfl (by kernel_rfl) (fun _ _ _ h => h) (Or.inl ⟨by rfl, ?_⟩) ?_ ?_
   rotate_left
   ·intro w'
    go_simp
    with_reducible rfl
   rotate_left
   ·simp only [Act.put, Sh.s1, Sh.s2, Sh.s3, i64_w, i32_w]
    rfl
   refine pure_ (i := 12) (N := some 20) (v := ?_) (a' := ?_) (U 16 13) rfl rfl (by kernel_rfl) (fun _ _ _ h => h) (Or.inl ⟨by rfl, ?_⟩) ?_ ?_
   rotate_left
   ·intro w'
    go_simp
    with_reducible rfl
   rotate_left
   ·simp only [Act.put, Sh.s1, Sh.s2, Sh.s3, i64_w, i32_w]
    rfl
   refine take_ (i := 13) (N := some 21) (v := ?_) (a' := ?_) (U 16 14) rfl rfl (by kernel_rfl) (fun _ _ _ h => h) (Or.inl ⟨by rfl, ?_⟩) hHeld ?_ ?_
   rotate_left
   ·rintro w' ⟨t0_, t1_, t2_⟩
    go_simp
    with_reducible rfl
   rotate_left
   ·simp only [Act.put, Sh.s1, Sh.s2, Sh.s3, i64_w, i32_w]
    rfl
   refine pure_ (i := 14) (N := some 6) (v := ?_) (a' := ?_) (U 16 15) rfl rfl (by kernel_rfl) (fun _ _ _ h => h) (Or.inl ⟨by rfl, ?_⟩) ?_ ?_
   rotate_left
   ·intro w'
    go_simp
    with_reducible rfl
   rotate_left
   ·simp only [Act.put, Sh.s1, Sh.s2, Sh.s3, i64_w, i32_w]
    rfl
   refine pure_ (i := 15) (N := some 7) (v := ?_) (a' := ?_) (U 16 16) rfl rfl (by kernel_rfl) (fun _ _ _ h => h) (Or.inl ⟨by rfl, ?_⟩) ?_ ?_
   rotate_left
   ·intro w'
    go_simp
    with_reducible rfl
   rotate_left
   ·simp only [Act.put, Sh.s1, Sh.s2, Sh.s3, i64_w, i32_w]
    rfl
   refine done_ (by kernel_rfl) ?_
   clear hHeld
   go_wp2
   go_ret
   exact ⟨rfl, 1, #[], by rw [grow_empty]; rfl⟩
  ·have b2 : decide (fy < fx) = false := decide_eq_false h2
   have e : cfI th x y = 1 := by
    unfold cfI
    rw [FX.out, FY.out, if_pos h1, if_neg h2]
   rw [e]
   clear h1 h2 e
   go_enter Try.func36, Try.ntmps36
   go_wp2
   refine start_ (n := 16) (S := fun w' : World => w'.cell? ⟨bx, 0, none⟩ = some (.slice (some ad) th.length c0) ∧ w'.cell? ⟨(ad.add (xi.toNat * 5)).block, (ad.add (xi.toNat * 5)).off + 4, none⟩ = some (.int .i64 fx) ∧ w'.cell? ⟨(ad.add (yi.toNat * 5)).block, (ad.add (yi.toNat * 5)).off + 4, none⟩ = some (.int .i64 fy)) (ds := []) (U 16 0) (by kernel_rfl) rfl rfl ⟨b0, x4, y4⟩ (fun hHeld => ?_)
   refine pure_ (i := 0) (N := some 8) (v := ?_) (a' := ?_) (U 16 1) rfl rfl (by kernel_rfl) (fun _ _ _ h => h) (Or.inl ⟨by rfl, ?_⟩) ?_ ?_
   rotate_left
   ·intro w'
    go_simp
    with_reducible rfl
   rotate_left
   ·simp only [Act.put, Sh.s1, Sh.s2, Sh.s3, i64_w, i32_w]
    rfl
   refine take_ (i := 1) (N := some 9) (v := ?_) (a' := ?_) (U 16 2) rfl rfl (by kernel_rfl) (fun _ _ _ h => h) (Or.inl ⟨by rfl, ?_⟩) hHeld ?_ ?_
   rotate_left
   ·rintro w' ⟨t0_, t1_, t2_⟩
    go_simp
    with_reducible rfl
   rotate_left
   ·simp only [Act.put, Sh.s1, Sh.s2, Sh.s3, i64_w, i32_w]
    rfl
   refine pure_ (i := 2) (N := some 10) (v := ?_) (a' := ?_) (U 16 3) rfl rfl (by kernel_rfl) (fun _ _ _ h => h) (Or.inl ⟨by rfl, ?_⟩) ?_ ?_
   rotate_left
   ·intro w'
    go_simp
    with_reducible rfl
   rotate_left
   ·simp only [Act.put, Sh.s1, Sh.s2, Sh.s3, i64_w, i32_w]
    rfl
   refine pure_ (i := 3) (N := some 11) (v := ?_) (a' := ?_) (U 16 4) rfl rfl (by kernel_rfl) (fun _ _ _ h => h) (Or.inl ⟨by rfl, ?_⟩) ?_ ?_
   rotate_left
   ·intro w'
    go_simp
    with_reducible rfl
   rotate_left
   ·simp only [Act.put, Sh.s1, Sh.s2, Sh.s3, i64_w, i32_w]
    rfl
   refine pure_ (i := 4) (N := some 12) (v := ?_) (a' := ?_) (U 16 5) rfl rfl (by kernel_rfl) (fun _ _ _ h => h) (Or.inl ⟨by rfl, ?_⟩) ?_ ?_
   rotate_left
   ·intro w'
    go_simp
    with_reducible rfl
   rotate_left
   ·simp only [Act.put, Sh.s1, Sh.s2, Sh.s3, i64_w, i32_w]
    rfl
   refine pure_ (i := 5) (N := some 13) (v := ?_) (a' := ?_) (U 16 6) rfl rfl (by kernel_rfl) (fun _ _ _ h => h) (Or.inl ⟨by rfl, ?_⟩) ?_ ?_
   rotate_left
   ·intro w'
    go_simp
    with_reducible rfl
   rotate_left
   ·simp only [Act.put, Sh.s1, Sh.s2, Sh.s3, i64_w, i32_w]
    rfl
   refine take_ (i := 6) (N := some 14) (v := ?_) (a' := ?_) (U 16 7) rfl rfl (by kernel_rfl) (fun _ _ _ h => h) (Or.inl ⟨by rfl, ?_⟩) hHeld ?_ ?_
   rotate_left
   ·rintro w' ⟨t0_, t1_, t2_⟩
    go_simp
    with_reducible rfl
   rotate_left
   ·simp only [Act.put, Sh.s1, Sh.s2, Sh.s3, i64_w, i32_w]
    rfl
   refine pure_ (i := 7) (N := some 15) (v := ?_) (a' := ?_) (U 16 8) rfl rfl (by kernel_rfl) (fun _ _ _ h => h) (Or.inl ⟨by rfl, ?_⟩) ?_ ?_
   rotate_left
   ·intro w'
    go_simp
    with_reducible rfl
   rotate_left
   ·simp only [Act.put, Sh.s1, Sh.s2, Sh.s3, i64_w, i32_w]
    rfl
   refine take_ (i := 8) (N := some 16) (v := ?_) (a' := ?_) (U 16 9) rfl rfl (by kernel_rfl) (fun _ _ _ h => h) (Or.inl ⟨by rfl, ?_⟩) hHeld ?_ ?_
   rotate_left
   ·rintro w' ⟨t0_, t1_, t2_⟩
    go_simp
    with_reducible rfl
   rotate_left
   ·simp only [Act.put, Sh.s1, Sh.s2, Sh.s3, i64_w, i32_w]
    rfl
   refine pure_ (i := 9) (N := some 17) (v := ?_) (a' := ?_) (U 16 10) rfl rfl (by kernel_rfl) (fun _ _ _ h => h) (Or.inl ⟨by rfl, ?_⟩) ?_ ?_
   rotate_left
   ·intro w'
    go_simp
    with_reducible rfl
   rotate_left
   ·simp only [Act.put, Sh.s1, Sh.s2, Sh.s3, i64_w, i32_w]
    rfl
   refine pure_ (i := 10) (N := some 18) (v := ?_) (a' := ?_) (U 16 11) rfl rfl (by kernel_rfl) (fun _ _ _ h => h) (Or.inl ⟨by rfl, ?_⟩) ?_ ?_
   rotate_left
   ·intro w'
    go_simp
    with_reducible rfl
   rotate_left
   ·simp only [Act.put, Sh.s1, Sh.s2, Sh.s3, i64_w, i32_w]
    rfl
   refine pure_ (i := 11) (N := some 19) (v := ?_) (a' := ?_) (U 16 12) rfl rfl (by kernel_rfl) (fun _ _ _ h => h) (Or.inl ⟨by rfl, ?_⟩) ?_ ?_
   rotate_left
   ·intro w'
    go_simp
    with_reducible rfl
   rotate_left
   ·simp only [Act.put, Sh.s1, Sh.s2, Sh.s3, i64_w, i32_w]
    rfl
   refine pure_ (i := 12) (N := some 20) (v := ?_) (a' := ?_) (U 16 13) rfl rfl (by kernel_rfl) (fun _ _ _ h => h) (Or.inl ⟨by rfl, ?_⟩) ?_ ?_
   rotate_left
   ·intro w'
    go_simp
    with_reducible rfl
   rotate_left
   ·simp only [Act.put, Sh.s1, Sh.s2, Sh.s3, i64_w, i32_w]
    rfl
   refine take_ (i := 13) (N := some 21) (v := ?_) (a' := ?_) (U 16 14) rfl rfl (by kernel_rfl) (fun _ _ _ h => h) (Or.inl ⟨by rfl, ?_⟩) hHeld ?_ ?_
   rotate_left
   ·rintro w' ⟨t0_, t1_, t2_⟩
    go_simp
    with_reducible rfl
   rotate_left
   ·simp only [Act.put, Sh.s1, Sh.s2, Sh.s3, i64_w, i32_w]
    rfl
   refine pure_ (i := 14) (N := some 6) (v := ?_) (a' := ?_) (U 16 15) rfl rfl (by kernel_rfl) (fun _ _ _ h => h) (Or.inl ⟨by rfl, ?_⟩) ?_ ?_
   rotate_left
   ·intro w'
    go_simp
    with_reducible rfl
   rotate_left
   ·simp only [Act.put, Sh.s1, Sh.s2, Sh.s3, i64_w, i32_w]
    rfl
   refine pure_ (i := 15) (N := some 7) (v := ?_) (a' := ?_) (U 16 16) rfl rfl (by kernel_rfl) (fun _ _ _ h => h) (Or.inl ⟨by rfl, ?_⟩) ?_ ?_
   rotate_left
   ·intro w'
    go_simp
    with_reducible rfl
   rotate_left
   ·simp only [Act.put, Sh.s1, Sh.s2, Sh.s3, i64_w, i32_w]
    rfl
   refine done_ (by kernel_rfl) ?_
   clear hHeld
   go_wp2
   go_ret
   exact ⟨rfl, 1, #[], by rw [grow_empty]; rfl⟩
/-- a handle that is one -/
abbrev Hd (n : Nat) := { h : Int // 1 ≤ h ∧ h ≤ n }
def encH {n : Nat} (x : Hd n) : Value := .int .i64 x.1
def cfH (th : List S43) (x y : Hd th.length) : Int := cfI th x.1 y.1
theorem ltH (th : List S43) (x y : Hd th.length) : ltOf (cfH th) x y = true ↔ (finF th y.1 < finF th x.1 ∨ finF th x.1 = finF th y.1 ∧ y.1 < x.1) := by
 unfold ltOf cfH cfI
 by_cases h : finF th x.1 = finF th y.1
 ·rw [if_neg (fun z => z h)]
  simp only [decide_eq_true_eq]
  omega
 ·rw [if_pos h]
  by_cases h2 : finF th y.1 < finF th x.1
  ·rw [if_pos h2]; simp [h2]
  ·rw [if_neg h2]; simp only [decide_eq_true_eq]; omega
theorem ltHf (th : List S43) (x y : Hd th.length) : ltOf (cfH th) x y = false ↔ ¬ (finF th y.1 < finF th x.1 ∨ finF th x.1 = finF th y.1 ∧ y.1 < x.1) := by
 rw [← ltH, Bool.not_eq_true]
theorem swoH (th : List S43) : SWO (ltOf (cfH th)) where
 irrefl x := by rw [ltHf]; omega
 trans x y z h1 h2 := by rw [ltH] at *; omega
 ntrans x y z h1 h2 := by rw [ltHf] at *; omega
theorem totH (th : List S43) (x y : Hd th.length) (h1 : ltOf (cfH th) x y = false) (h2 : ltOf (cfH th) y x = false) : x = y := by
 rw [ltHf] at *
 exact Subtype.ext (by omega)
theorem getI_map {n : Nat} [Inhabited (Hd n)] (d : Array (Hd n)) (i : Nat) (hi : i < d.size) : (d.map (·.1))[i]! = (d[i]!).1 := by
 rw [getElem!_pos _ i (by simpa using hi), getElem!_pos d i hi]
 simp
theorem putCells_map {n : Nat} [Inhabited (Hd n)] (off : Nat) (d : Array (Hd n)) (c : Array Value) : putCells encH off d c = putCells (Value.int .i64) off (d.map (·.1)) c := by
 unfold putCells
 simp only [Array.size_map]
 congr 1
 funext k x
 split
 ·rename_i h
  rw [getI_map d (k - off) (by omega)]
  rfl
 ·rfl
theorem sortWorld_map {n : Nat} [Inhabited (Hd n)] (w : World) (blk off m : Nat) (d : Array (Hd n)) (os : Array Obj) : sortWorld encH w blk off m d os = sortWorld (Value.int .i64) w blk off m (d.map (·.1)) os := by
 unfold sortWorld putRow
 rw [show putCells encH off d = putCells (Value.int .i64) off (d.map (·.1)) from funext fun c => putCells_map off d c]
theorem sort_map (th : List S43) (l : List (Hd th.length)) : (l.mergeSort (fun x y => !(ltOf (cfH th) y x))).map (·.1) = sortF th (l.map (·.1)) := by
 unfold sortF
 refine List.map_mergeSort ?_
 intro a _ b _
 rfl
end Go.Proofs.Ytollnnbcfhnlfaa.Rg

/- reach: slices.SortFunc as Collect calls it. -/
set_option linter.unusedVariables false
set_option linter.unusedSimpArgs false
namespace Go.Proofs.Ytollnnbcfhnlfaa.Rg
open Go.Proofs.Ytollnnbcfhnlfaa.Sh
open Go.RowKit Go.Proofs.Ytollnnbcfhnlfaa.QR Go.Proofs.YtollnnbcfhnlfaaW.PrintWords Go.Proofs.YtollnnbcfhnlfaaW.PrintLast Go.Proofs.YtollnnbcfhnlfaaW.PrintMore Go.Shelf Go.Sort
theorem sort_calls (W w : World) (HB : Below W.heap.size W w) (bx : Nat) (A0 : Option Addr) (c0 : Nat) (th : List S43) (v1 : Value) (hbx : w.heap[bx]? = some (.cells #[.slice A0 th.length c0, v1] 25 (0, 0))) (hC : Kd.C k43 W A0 th.length th) (hm : th.length ≤ 1000000)
  (pv : Value) (pl : List Int) (hR : Kd.R (Kd.int .i64) 3 w W.heap.size (fun _ => True) pv pl) (hr : ∀ x ∈ pl, 1 ≤ x ∧ x ≤ (th.length : Nat)) (hpl : pl.length ≤ 1000000) :
  Calls Try.prog 35 #[pv, .func (.func 36) #[] #[.pointer (some ⟨bx, 0, none⟩)]] w fun e w' => e = .returned (.tuple #[]) ∧ Kd.R (Kd.int .i64) 3 w' W.heap.size (fun _ => True) pv (sortF th pl) ∧ w.grownBy w' pv.ownBlock := by
 obtain ⟨A, c, rfl⟩ := Kd.R_slice hR
 rcases Nat.eq_zero_or_pos pl.length with hz | hp
 ·obtain rfl := List.eq_nil_of_length_eq_zero hz
  have h := AnyF.slices_SortFunc_none (P := Try.prog) (ρ := Try.sortL_ren) { Try.sortL with } A c (.func (.func 36) #[] #[.pointer (some ⟨bx, 0, none⟩)]) w
  refine Calls.mono (show Calls Try.prog 35 _ _ _ from h) ?_
  rintro e w' ⟨rfl, rfl⟩
  exact ⟨rfl, by simpa [sortF] using hR, World.grownBy.refl _ _⟩
 ·obtain ⟨g, cap, e1, hb, hlt, cur, hcur⟩ := Kd.R_form hR hp
  obtain ⟨rfl, rfl⟩ : A = some ⟨g, 0, none⟩ ∧ c = cap := by
   injection e1 with a b c
   exact ⟨a, c⟩
  have hown := Kd.own_of_R hR
  rcases hown.2 with ⟨e0, _⟩ | ⟨g', cap', cur', e0, _, hcur', hn, hcap, hsz, htk⟩
  ·cases e0
  injection e0 with e2 e3 e4
  injection e2 with e2
  injection e2 with e2
  subst e2 e4
  have h1n : 1 ≤ th.length := by
   obtain ⟨x, hx⟩ := List.exists_mem_of_ne_nil pl (fun e => by rw [e] at hp; simp at hp)
   have := hr x hx
   omega
  haveI : Inhabited (Hd th.length) := ⟨⟨1, by omega⟩⟩
  obtain ⟨dl, hdl⟩ : ∃ dl : List (Hd th.length), dl.map (·.1) = pl := ⟨pl.pmap (fun x h => ⟨x, h⟩) hr, by simp [List.map_pmap]⟩
  have hsz2 : dl.toArray.size = pl.length := by rw [← hdl]; simp
  have hne : bx ≠ g := fun e => by
   rw [← e, hbx] at hcur
   cases hcur
  have hH0 : Holds (Value.int .i64) w g 0 pl.toArray := holds_of_blockI hcur' (by
   rw [Nat.mul_one] at htk
   exact htk)
  have hH : Holds encH w g 0 dl.toArray := by
   intro j hj
   have := hH0 j (by have h6 := hj; rw [hsz2] at h6; simpa using h6)
   have e5 : pl.toArray[j]! = (dl.toArray[j]!).1 := by
    have := getI_map dl.toArray j hj
    rw [← this, ← hdl]
    simp
   rw [e5] at this
   exact this
  have hbel : ∀ (m : Nat) (os : Array Obj) (d : Array (Hd th.length)), w.grownBy (sortWorld encH w g 0 m d os) (some g) := fun m os d => by
   rw [sortWorld_map]
   exact grownBy_sortedI _
  have hcmp : CmpLays1 Try.prog 36 #[.pointer (some ⟨bx, 0, none⟩)] (encH (n := th.length)) (cfH th) g 0 dl.toArray.size w := by
   intro m os dk _ x y
   have hg := hbel m os dk
   have hB : Below W.heap.size W (sortWorld encH w g 0 m dk os) := pw_below_grown HB (some g) HB.size hg (fun k hk => by cases hk; exact hb)
   have hbx2 := hg.block bx (blk_lt hbx) (fun e => hne (by injection e))
   exact cmp_calls W _ bx A0 c0 th (blk_cell (hbx2.trans hbx) 0) (Kd.C_below hC hB) hm x.1 y.1 x.2 y.2
  have h := Any.slices_SortFunc_total Try.sortL (encH (n := th.length)) (fun _ => rfl) (cfH th) (swoH th) 36 #[.pointer (some ⟨bx, 0, none⟩)] g 0 c dl.toArray w (enters_of Try.func36 (by kernel_rfl) rfl) hcmp hH hlt (by rw [hsz2]; omega) (totH th)
  rw [hsz2] at h
  refine Calls.mono (show Calls Try.prog 35 _ _ _ from h) ?_
  rintro e w' ⟨rfl, n, os, rfl⟩
  have hts : ((dl.toArray.toList.mergeSort fun x y => !(ltOf (cfH th)) y x).toArray.map (·.1)) = (sortF th pl).toArray := by
   rw [← hdl, ← sort_map]
   simp
  rw [sortWorld_map, hts]
  refine ⟨rfl, ?_, grownBy_sortedI _⟩
  have hl : (sortF th pl).length = pl.length := by unfold sortF; exact List.length_mergeSort _
  have ho := ownsRow_sortedI (n := n) (os := os) (ts := sortF th pl) hl hb hcur' hn hcap hsz
  refine Kd.R_of_own ?_ (fun _ _ => trivial)
  rw [hl]
  exact ho
end Go.Proofs.Ytollnnbcfhnlfaa.Rg

/- reach: the state of Collect while it goes over the tables. -/
set_option linter.unusedVariables false
set_option linter.unusedSimpArgs false
namespace Go.Proofs.Ytollnnbcfhnlfaa.Rg
open Go.Proofs.Ytollnnbcfhnlfaa.Sh
open Go.RowKit Go.Proofs.Ytollnnbcfhnlfaa.QR Go.Proofs.YtollnnbcfhnlfaaW.PrintWords Go.Proofs.YtollnnbcfhnlfaaW.PrintLast Go.Proofs.YtollnnbcfhnlfaaW.PrintMore
structure CP where
 W : World
 A0 : Option Addr
 c0 : Nat
 th : List S43
 live : List Bool
 first : List Bool
 pend : List Int
 ob : Nat
 lv : Value
 pv : Value
 nv : Value
 g : Nat
 xs : Value
 ys : Value
 zs : Value
def CI (p : CP) (w : World) (kb : List KB) (cl : List S49) : Prop :=
 Below p.W.heap.size p.W w ∧ (∃ cv, w.heap[p.ob]? = some (.cells #[p.lv, p.pv, cv] 37 (0, 0)) ∧ Kd.R k49 49 w p.W.heap.size (fun _ => True) cv cl) ∧
 Kd.R Kd.bool 4 w p.W.heap.size (fun _ => True) p.lv p.live ∧ Kd.R Kd.bool 4 w p.W.heap.size (fun _ => True) p.nv p.first ∧ Kd.R (Kd.int .i64) 3 w p.W.heap.size (fun _ => True) p.pv p.pend ∧
 p.W.heap.size ≤ p.ob ∧ (∀ b ∈ kb, w.heap[b.1]? = some (.cells b.2.1 b.2.2 (0, 0)) ∧ b.2.2 ≠ 37 ∧ b.2.2 ≠ 49) ∧ w.heap[p.g]? = some (.cells #[.slice p.A0 p.th.length p.c0, p.xs, p.ys, p.zs] 58 (0, 0))
section
variable {p : CP} {w wx : World} {kb : List KB} {cl : List S49}
theorem CI.base (h : CI p w kb cl) : Below p.W.heap.size p.W w := h.1
theorem CI.below (h : CI p w kb cl) (hb : Below w.heap.size w wx) : CI p wx kb cl := by
 obtain ⟨a, ⟨cv, b, c⟩, d, e, f, g, k, l⟩ := h
 exact ⟨below_step a hb, ⟨cv, blk_below b hb, Kd.R_below c hb⟩, Kd.R_below d hb, Kd.R_below e hb, Kd.R_below f hb, g, fun q hq => ⟨blk_below (k q hq).1 hb, (k q hq).2⟩, blk_below l hb⟩
theorem CI.add (h : CI p w kb cl) {b : Nat} {cs : Array Value} {T : TypeId} (hb : w.heap[b]? = some (.cells cs T (0, 0))) (h1 : T ≠ 37 := by decide) (h2 : T ≠ 49 := by decide) : CI p w ((b, cs, T) :: kb) cl := by
 obtain ⟨a, b', d, e, f, g, k, l⟩ := h
 refine ⟨a, b', d, e, f, g, fun q hq => ?_, l⟩
 rcases List.mem_cons.1 hq with z | z
 ·subst z; exact ⟨hb, h1, h2⟩
 ·exact k q z
theorem CI.box (h : CI p w kb cl) (cs : Array Value) (T : TypeId) (h1 : T ≠ 37 := by decide) (h2 : T ≠ 49 := by decide) : CI p (w.alloc (.cells cs T)) ((w.heap.size, cs, T) :: kb) cl :=
 (h.below (below_alloc (Below.refl _ _) (.cells cs T))).add (alloc_at _ _) h1 h2
theorem CI.drop {b : KB} (h : CI p w (b :: kb) cl) : CI p w kb cl := by
 obtain ⟨a, b', d, e, f, g, k, l⟩ := h
 exact ⟨a, b', d, e, f, g, fun q hq => k q (List.mem_cons_of_mem _ hq), l⟩
theorem CI.blk (h : CI p w kb cl) {b : Nat} {cs : Array Value} {T : TypeId} (hb : (b, cs, T) ∈ kb) : w.heap[b]? = some (.cells cs T (0, 0)) := by
 obtain ⟨a, b', d, e, f, g, k, l⟩ := h
 exact (k _ hb).1
theorem CI.object (h : CI p w kb cl) (hC : Kd.C k43 p.W p.A0 p.th.length p.th) (hm : p.th.length ≤ 1000000) (hb : Below w.heap.size w wx) (t n : Int) : Calls Try.prog 33 #[.pointer (some ⟨p.g, 0, none⟩), .agg #[.int .i64 t, .int .i64 n]] wx fun e w' => e = .returned (.int .i64 (objF p.th t n)) ∧ Below w.heap.size w w' := by
 have h' := h.below hb
 obtain ⟨a, b', d, e, f, g, k, l⟩ := h'
 exact (object_calls wx p.g p.A0 p.c0 p.th (blk_cell l 0) (Kd.C_below hC a) t n hm).mono fun e w' ⟨e1, e2⟩ => ⟨e1, below_step hb e2⟩
theorem CI.weakly (h : CI p w kb cl) (hC : Kd.C k43 p.W p.A0 p.th.length p.th) (hm : p.th.length ≤ 1000000) (hb : Below w.heap.size w wx) (t n : Int) : Calls Try.prog 40 #[.pointer (some ⟨p.g, 0, none⟩), .agg #[.int .i64 t, .int .i64 n]] wx fun e w' => e = .returned (.bool (weaklyF p.th t n)) ∧ Below w.heap.size w w' := by
 have h' := h.below hb
 obtain ⟨a, b', d, e, f, g, k, l⟩ := h'
 exact (weakly_calls wx p.g p.A0 p.c0 p.th (blk_cell l 0) (Kd.C_below hC a) t n hm).mono fun e w' ⟨e1, e2⟩ => ⟨e1, below_step hb e2⟩
/-- a live object: the cell of the out block, and the bool's -/
theorem CI.lived (h : CI p w kb cl) (i : Int) (h0 : 0 ≤ i) (h1 : i < p.live.length) : ∃ gl c, w.cell? ⟨p.ob, 0, none⟩ = some (.slice (some ⟨gl, 0, none⟩) p.live.length c) ∧ w.cell? ⟨gl, i.toNat, none⟩ = some (.bool (rdOf false p.live i)) := by
 obtain ⟨a, ⟨cv, b, c⟩, d, e, f, g, k, l⟩ := h
 obtain ⟨gl, cn, e1, _⟩ := Kd.R_form d (by omega)
 have hd := d
 rw [e1] at hd
 refine ⟨gl, cn, (show w.cell? ⟨p.ob, 0, none⟩ = some p.lv from blk_cell b 0).trans (by rw [e1]), (Kd.R_celln false hd i h0 (by omega)).1⟩
theorem CI.firsts (h : CI p w kb cl) (fb : Nat) (hf : (fb, #[p.nv], 30) ∈ kb) (i : Int) (h0 : 0 ≤ i) (h1 : i < p.first.length) : ∃ gl c, w.cell? ⟨fb, 0, none⟩ = some (.slice (some ⟨gl, 0, none⟩) p.first.length c) ∧ ∀ j : Int, 0 ≤ j → j < p.first.length → w.cell? ⟨gl, j.toNat, none⟩ = some (.bool (rdOf false p.first j)) := by
 have hb := h.blk hf
 obtain ⟨a, ⟨cv, b, c⟩, d, e, f, g, k, l⟩ := h
 obtain ⟨gl, cn, e1, _⟩ := Kd.R_form e (by omega)
 have hd := e
 rw [e1] at hd
 refine ⟨gl, cn, (show w.cell? ⟨fb, 0, none⟩ = some p.nv from blk_cell hb 0).trans (by rw [e1]), fun j j0 j1 => (Kd.R_celln false hd j j0 (by omega)).1⟩
theorem CI.cleared (h : CI p w kb cl) : ∃ cv, w.heap[p.ob]? = some (.cells #[p.lv, p.pv, cv] 37 (0, 0)) ∧ Kd.R k49 49 w p.W.heap.size (fun _ => True) cv cl ∧ ∀ cv' cl' w', w.grownBy w' cv.ownBlock → Below p.W.heap.size p.W w' → Kd.R k49 49 w' p.W.heap.size (fun _ => True) cv' cl' → CI p (w'.setCell ⟨p.ob, 2, none⟩ cv') kb cl' := by
 obtain ⟨a, ⟨cv, b, c⟩, d, e, f, g, k, l⟩ := h
 refine ⟨cv, b, c, fun cv' cl' w' hg hb hR => ?_⟩
 have b' := blk_grown b hg (Kd.R_ne c b (by decide))
 refine ⟨below_set hb g, ⟨cv', ?_, Kd.R_set hR b' (by decide) _ _⟩, Kd.R_set (Kd.R_over d c (by decide) hg) b' (by decide) _ _, Kd.R_set (Kd.R_over e c (by decide) hg) b' (by decide) _ _, Kd.R_set (Kd.R_over f c (by decide) hg) b' (by decide) _ _, g, fun q hq => ?_, ?_⟩
 ·simp [World.setCell, Array.getElem?_modify, b']
 ·obtain ⟨k1, k2, k3⟩ := k q hq
  have k1' := blk_grown k1 hg (Kd.R_ne c k1 (Ne.symm k3))
  exact ⟨blk_far k1' (fun z => by
   have z' : q.1 = p.ob := z
   rw [z', b'] at k1'
   injection k1' with k1'
   injection k1' with _ k1'
   exact k2 k1'.symm) _, k2, k3⟩
 ·have l' := blk_grown l hg (Kd.R_ne c l (by decide))
  exact blk_far l' (fun z => by
   have z' : p.g = p.ob := z
   rw [z', b'] at l'
   injection l' with l'
   injection l' with _ l'
   exact absurd l' (by decide)) _
end
/-- is an entry cleared? -/
def goneF (th : List S43) (live first : List Bool) (i : Int) (wv : Int) (sl : List S40) (key value : Int) : Bool :=
 (wv != 1 && weaklyF th (rd_T40 sl value).f0 (rd_T40 sl value).f1 && (!rdOf false live (objF th (rd_T40 sl value).f0 (rd_T40 sl value).f1 - 1) || (rdOf false first i && !rdOf false first (objF th (rd_T40 sl value).f0 (rd_T40 sl value).f1 - 1)))) ||
 (decide (0 ≤ key) && wv != 2 && weaklyF th (rd_T40 sl key).f0 (rd_T40 sl key).f1 && !rdOf false live (objF th (rd_T40 sl key).f0 (rd_T40 sl key).f1 - 1))
def clearF (th : List S43) (live first : List Bool) (i : Int) (wv : Int) (sl : List S40) (cl : List S49) (q : Int × Int) : List S49 :=
 if goneF th live first i wv sl q.1 q.2 = true then cl ++ [⟨i + 1, q.2⟩] else cl
end Go.Proofs.Ytollnnbcfhnlfaa.Rg
