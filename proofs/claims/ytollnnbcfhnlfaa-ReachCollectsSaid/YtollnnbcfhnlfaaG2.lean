/- reach, part G2 of the hand texts (L2w, Sl, Gl): what each part says stands at its head. -/
import Derived.Test.YtollnnbcfhnlfaaSh
import Derived.Test.YtollnnbcfhnlfaaG1
import Derived.Deep.RegionHeld3
/- reach: lead's second closure, walked. -/
set_option linter.unusedVariables false
set_option linter.unusedSimpArgs false
namespace Go.Proofs.Ytollnnbcfhnlfaa.Rg
open Go.Proofs.Ytollnnbcfhnlfaa.Sh
open Go.RowKit Go.Proofs.Ytollnnbcfhnlfaa.QR Go.Proofs.YtollnnbcfhnlfaaW.PrintWords Go.Proofs.YtollnnbcfhnlfaaW.PrintLast Go.Proofs.YtollnnbcfhnlfaaW.PrintMore
theorem LS.below2 {p : LP} {w wx : World} {bx : List (Nat × Int × Int)} {s : List Bool × List Int} (h : LS p w bx s) (hb : Below w.heap.size w wx) : LS p wx bx s := h.below hb
set_option maxHeartbeats 8000000 in
set_option maxRecDepth 100000 in
theorem lead2_a (p : LP) (s : List Bool × List Int) (hS : LS p p.W [] s) (hF : Fine p.th s) (hm : p.th.length ≤ 1000000) (hC : Kd.C k40 p.w0 (some p.ad) p.sl.length p.sl) (key value : Int) (hv0 : 0 ≤ value) (hv1 : value < p.sl.length) (hw : weakF p.kind p.weak = 1) (hk : key < 0) :
  Calls Try.prog 47 #[.int .i64 key, .int .i64 value, .pointer (some ⟨p.tb, 0, none⟩), .pointer (some ⟨p.gb, 0, none⟩), .pointer (some ⟨p.sb, 0, none⟩)] p.W fun e W' => e = .returned (.tuple #[]) ∧ ∃ bx, LS p W' bx (needF p.th s.1 s.2 (rd_T40 p.sl value).f0 (rd_T40 p.sl value).f1) := by
 have HM := Aside0.mk hm
 have HF := Aside0.mk hF
 have HC := Aside0.mk hC
 obtain ⟨z0, z1, z2, z3, z4, y0, s0⟩ := hS.cells
 obtain ⟨x0, x1⟩ := hS.slot hC value hv0 hv1
 have HL := Aside0.mk (hS.box (rd_T40 p.sl value).f0 (rd_T40 p.sl value).f1)
 obtain ⟨a0, a1, a2, a3, a4, b0, c0⟩ := HL.out.cells
 have bk : decide (key < 0) = true := decide_eq_true hk
 have HW := Aside0.mk hw
 clear hw hk
 replace hv0 := eq_true hv0
 replace hv1 := eq_true hv1
 clear hm hF hC hS
 go_enter Try.func47, Try.ntmps47
 go_wp2_with (first | (go_at_call 37; (with_reducible refine (HL.out.weak (by first | exact Below.refl _ _ | exact below_drew (Below.refl _ _) | exact pw_below_drewN (Below.refl _ _) _ | exact below_alloc (Below.refl _ _) _)).mono ?_); rintro e w2 ⟨rfl, h2⟩; rw [HW.out]; clear z0 z1 z2 z3 z4 y0 s0 x0 x1 a0 a1 a2 a3 a4 b0 c0 HL; have HL := Aside0.mk h2; clear h2; obtain ⟨z0, z1, z2, z3, z4, y0, s0⟩ := HL.out.cells; obtain ⟨v0, v1⟩ := HL.out.boxed (b := p.W.heap.size) (x := (rd_T40 p.sl value).f0) (y := (rd_T40 p.sl value).f1) (by simp)) | (go_at_call 28; (with_reducible refine (HL.out.need (by first | exact Below.refl _ _ | exact below_drew (Below.refl _ _) | exact pw_below_drewN (Below.refl _ _) _ | exact below_alloc (Below.refl _ _) _) HF.out HM.out (rd_T40 p.sl value).f0 (rd_T40 p.sl value).f1).mono ?_); rintro e w2 ⟨rfl, h2⟩; clear z0 z1 z2 z3 z4 y0 s0 v0 v1; (try clear k0 k1); (try clear x0 x1); clear HL; have HL := Aside0.mk h2; clear h2; obtain ⟨z0, z1, z2, z3, z4, y0, s0⟩ := HL.out.cells; obtain ⟨v0, v1⟩ := HL.out.boxed (b := p.W.heap.size) (x := (rd_T40 p.sl value).f0) (y := (rd_T40 p.sl value).f1) (by simp)))
 go_end0
 exact ⟨rfl, _, HL.out⟩

set_option maxHeartbeats 8000000 in
set_option maxRecDepth 100000 in
theorem lead2_b1 (p : LP) (s : List Bool × List Int) (hS : LS p p.W [] s) (hF : Fine p.th s) (hm : p.th.length ≤ 1000000) (hC : Kd.C k40 p.w0 (some p.ad) p.sl.length p.sl) (key value : Int) (hv0 : 0 ≤ value) (hv1 : value < p.sl.length) (hw : weakF p.kind p.weak = 1) (hk : 0 ≤ key) (hk1 : key < p.sl.length) (hk2 : weaklyF p.th (rd_T40 p.sl key).f0 (rd_T40 p.sl key).f1 = false) :
  Calls Try.prog 47 #[.int .i64 key, .int .i64 value, .pointer (some ⟨p.tb, 0, none⟩), .pointer (some ⟨p.gb, 0, none⟩), .pointer (some ⟨p.sb, 0, none⟩)] p.W fun e W' => e = .returned (.tuple #[]) ∧ ∃ bx, LS p W' bx (needF p.th (needF p.th s.1 s.2 (rd_T40 p.sl key).f0 (rd_T40 p.sl key).f1).1 (needF p.th s.1 s.2 (rd_T40 p.sl key).f0 (rd_T40 p.sl key).f1).2 (rd_T40 p.sl value).f0 (rd_T40 p.sl value).f1) := by
 have HM := Aside0.mk hm
 have HF := Aside0.mk hF
 have HC := Aside0.mk hC
 obtain ⟨z0, z1, z2, z3, z4, y0, s0⟩ := hS.cells
 obtain ⟨x0, x1⟩ := hS.slot hC value hv0 hv1
 have HL := Aside0.mk (hS.box (rd_T40 p.sl value).f0 (rd_T40 p.sl value).f1)
 obtain ⟨a0, a1, a2, a3, a4, b0, c0⟩ := HL.out.cells
 have HW := Aside0.mk hw
 have HWK := Aside0.mk hk2
 clear hw hk2
 have bk : decide (key < 0) = false := decide_eq_false (by omega)
 have bk2 : decide (key ≥ 0) = true := decide_eq_true hk
 have KP := Aside0.mk hk
 have KL := Aside0.mk hk1
 replace hk := eq_true hk
 replace hk1 := eq_true hk1
 replace hv0 := eq_true hv0
 replace hv1 := eq_true hv1
 clear hm hF hC hS
 go_enter Try.func47, Try.ntmps47
 go_wp2_with (first | (go_at_call 37; (with_reducible refine (HL.out.weak (by first | exact Below.refl _ _ | exact below_drew (Below.refl _ _) | exact pw_below_drewN (Below.refl _ _) _ | exact below_alloc (Below.refl _ _) _)).mono ?_); rintro e w2 ⟨rfl, h2⟩; rw [HW.out]; (try clear z0); (try clear z1); (try clear z2); (try clear z3); (try clear z4); (try clear y0); (try clear s0); (try clear v0); (try clear v1); (try clear x0); (try clear x1); (try clear a0); (try clear a1); (try clear a2); (try clear a3); (try clear a4); (try clear b0); (try clear c0); (try clear q0); (try clear q1); (try clear q2); (try clear q3); (try clear q4); (try clear q5); (try clear q6); (try clear k0); (try clear k1); (try clear r0); (try clear r1); (try clear g2); (try clear ne); clear HL; (try clear HK); have HL := Aside0.mk h2; clear h2; obtain ⟨z0, z1, z2, z3, z4, y0, s0⟩ := HL.out.cells; obtain ⟨v0, v1⟩ := HL.out.boxed (b := p.W.heap.size) (x := (rd_T40 p.sl value).f0) (y := (rd_T40 p.sl value).f1) (by simp); obtain ⟨x0, x1⟩ := HL.out.slot HC.out key KP.out KL.out; have HK := Aside0.mk (HL.out.box (rd_T40 p.sl key).f0 (rd_T40 p.sl key).f1); obtain ⟨q0, q1, q2, q3, q4, q5, q6⟩ := HK.out.cells; obtain ⟨k0, k1⟩ := HK.out.boxed (b := w2.heap.size) (x := (rd_T40 p.sl key).f0) (y := (rd_T40 p.sl key).f1) (by simp); obtain ⟨r0, r1⟩ := HK.out.boxed (b := p.W.heap.size) (x := (rd_T40 p.sl value).f0) (y := (rd_T40 p.sl value).f1) (by simp)))
 refine start_ (n := 16) (S := fun w' : World => w'.cell? ⟨p.gb, 0, none⟩ = some (.pointer (some ⟨p.g, 0, none⟩)) ∧ w'.cell? ⟨w2.heap.size, 0, none⟩ = some (.int .i64 (rd_T40 p.sl key).f0) ∧ w'.cell? ⟨w2.heap.size, 1, none⟩ = some (.int .i64 (rd_T40 p.sl key).f1)) (ds := []) (U 16 0) (by kernel_rfl) rfl rfl ⟨q5, k0, k1⟩ (fun hHeld => ?_)
 refine take_ (i := 0) (N := some 46) (v := ?_) (a' := ?_) (U 16 1) rfl rfl (by kernel_rfl) (fun _ _ _ h => h) (Or.inl ⟨by rfl, ?_⟩) hHeld ?_ ?_
 rotate_left
 ·rintro w' ⟨t0_, t1_, t2_⟩
  go_simp
  with_reducible rfl
 rotate_left
 ·simp only [Act.put, Sh.s1, Sh.s2, Sh.s3, i64_w, i32_w]
  rfl
 refine take_ (i := 1) (N := some 47) (v := ?_) (a' := ?_) (U 16 2) rfl rfl (by kernel_rfl) (fun _ _ _ h => h) (Or.inl ⟨by rfl, ?_⟩) hHeld ?_ ?_
 rotate_left
 ·rintro w' ⟨t0_, t1_, t2_⟩
  go_simp
  with_reducible rfl
 rotate_left
 ·simp only [Act.put, Sh.s1, Sh.s2, Sh.s3, i64_w, i32_w]
  rfl
 refine one_ (i := 2) (N := some 48) (U 16 3) rfl rfl (by kernel_rfl) (by decide) (fun K hK => ?_)
 refine goes_ Try.func40 (by kernel_rfl) rfl #[.pointer (some ⟨p.g, 0, none⟩), .agg #[.int .i64 (rd_T40 p.sl key).f0, .int .i64 (rd_T40 p.sl key).f1]] (by rfl) rfl rfl (by (try simp only [List.map_toArray, List.map_cons, List.map_nil]); first | done | rfl) ?_
 refine (HK.out.weakly (below_drew (Below.refl _ _)) HM.out (rd_T40 p.sl key).f0 (rd_T40 p.sl key).f1).mono ?_
 rintro e w3 ⟨rfl, h3⟩
 rw [HWK.out]
 replace q5 := (h3.cell (cell_lt q5)).trans q5
 replace k0 := (h3.cell (cell_lt k0)).trans k0
 replace k1 := (h3.cell (cell_lt k1)).trans k1
 replace r0 := (h3.cell (cell_lt r0)).trans r0
 replace r1 := (h3.cell (cell_lt r1)).trans r1
 have n1 := Aside0.mk (HK.out.below h3)
 clear h3 HK
 have HK := n1
 clear n1
 refine ⟨_, rfl, ?_⟩
 refine hK.out _ _ ⟨q5, k0, k1⟩ (fun hHeld => ?_)
 clear hK K
 refine norm_ (a' := ?_) ?_ ?_
 rotate_left
 ·show Act.put _ (some 48) _ = _
  simp only [Act.put, Sh.s1, Sh.s2, Sh.s3, i64_w, i32_w]
  rfl
 refine pure_ (i := 3) (N := some 49) (v := ?_) (a' := ?_) (U 16 4) rfl rfl (by kernel_rfl) (fun _ _ _ h => h) (Or.inl ⟨by rfl, ?_⟩) ?_ ?_
 rotate_left
 ·intro w'
  go_simp
  with_reducible rfl
 rotate_left
 ·simp only [Act.put, Sh.s1, Sh.s2, Sh.s3, i64_w, i32_w]
  rfl
 refine pure_ (i := 4) (N := some 50) (v := ?_) (a' := ?_) (U 16 5) rfl rfl (by kernel_rfl) (fun _ _ _ h => h) (Or.inl ⟨by rfl, ?_⟩) ?_ ?_
 rotate_left
 ·intro w'
  go_simp
  with_reducible rfl
 rotate_left
 ·simp only [Act.put, Sh.s1, Sh.s2, Sh.s3, i64_w, i32_w]
  rfl
 refine pure_ (i := 5) (N := some 51) (v := undef) (a' := ?_) (U 16 6) rfl rfl (by kernel_rfl) (fun _ _ _ h => h) (Or.inr ⟨by rfl, rfl⟩) ?_ ?_
 rotate_left
 ·simp only [Act.put, Sh.s1, Sh.s2, Sh.s3, i64_w, i32_w]
  rfl
 refine pure_ (i := 6) (N := some 52) (v := undef) (a' := ?_) (U 16 7) rfl rfl (by kernel_rfl) (fun _ _ _ h => h) (Or.inr ⟨by rfl, rfl⟩) ?_ ?_
 rotate_left
 ·simp only [Act.put, Sh.s1, Sh.s2, Sh.s3, i64_w, i32_w]
  rfl
 refine pure_ (i := 7) (N := some 53) (v := undef) (a' := ?_) (U 16 8) rfl rfl (by kernel_rfl) (fun _ _ _ h => h) (Or.inr ⟨by rfl, rfl⟩) ?_ ?_
 rotate_left
 ·simp only [Act.put, Sh.s1, Sh.s2, Sh.s3, i64_w, i32_w]
  rfl
 refine pure_ (i := 8) (N := some 54) (v := undef) (a' := ?_) (U 16 9) rfl rfl (by kernel_rfl) (fun _ _ _ h => h) (Or.inr ⟨by rfl, rfl⟩) ?_ ?_
 rotate_left
 ·simp only [Act.put, Sh.s1, Sh.s2, Sh.s3, i64_w, i32_w]
  rfl
 refine pure_ (i := 9) (N := some 55) (v := undef) (a' := ?_) (U 16 10) rfl rfl (by kernel_rfl) (fun _ _ _ h => h) (Or.inr ⟨by rfl, rfl⟩) ?_ ?_
 rotate_left
 ·simp only [Act.put, Sh.s1, Sh.s2, Sh.s3, i64_w, i32_w]
  rfl
 refine pure_ (i := 10) (N := some 56) (v := undef) (a' := ?_) (U 16 11) rfl rfl (by kernel_rfl) (fun _ _ _ h => h) (Or.inr ⟨by rfl, rfl⟩) ?_ ?_
 rotate_left
 ·simp only [Act.put, Sh.s1, Sh.s2, Sh.s3, i64_w, i32_w]
  rfl
 refine pure_ (i := 11) (N := some 57) (v := undef) (a' := ?_) (U 16 12) rfl rfl (by kernel_rfl) (fun _ _ _ h => h) (Or.inr ⟨by rfl, rfl⟩) ?_ ?_
 rotate_left
 ·simp only [Act.put, Sh.s1, Sh.s2, Sh.s3, i64_w, i32_w]
  rfl
 refine pure_ (i := 12) (N := some 58) (v := undef) (a' := ?_) (U 16 13) rfl rfl (by kernel_rfl) (fun _ _ _ h => h) (Or.inr ⟨by rfl, rfl⟩) ?_ ?_
 rotate_left
 ·simp only [Act.put, Sh.s1, Sh.s2, Sh.s3, i64_w, i32_w]
  rfl
 refine pure_ (i := 13) (N := some 59) (v := undef) (a' := ?_) (U 16 14) rfl rfl (by kernel_rfl) (fun _ _ _ h => h) (Or.inr ⟨by rfl, rfl⟩) ?_ ?_
 rotate_left
 ·simp only [Act.put, Sh.s1, Sh.s2, Sh.s3, i64_w, i32_w]
  rfl
 refine pure_ (i := 14) (N := some 60) (v := undef) (a' := ?_) (U 16 15) rfl rfl (by kernel_rfl) (fun _ _ _ h => h) (Or.inr ⟨by rfl, rfl⟩) ?_ ?_
 rotate_left
 ·simp only [Act.put, Sh.s1, Sh.s2, Sh.s3, i64_w, i32_w]
  rfl
 refine pure_ (i := 15) (N := some 61) (v := ?_) (a' := ?_) (U 16 16) rfl rfl (by kernel_rfl) (fun _ _ _ h => h) (Or.inl ⟨by rfl, ?_⟩) ?_ ?_
 rotate_left
 ·intro w'
  go_simp
  with_reducible rfl
 rotate_left
 ·simp only [Act.put, Sh.s1, Sh.s2, Sh.s3, i64_w, i32_w]
  rfl
 refine done_ (by kernel_rfl) ?_
 clear HL hHeld
 have HL := HK
 clear HK
 go_wp2_with (first | (go_at_call 28; (with_reducible refine (HL.out.need (by first | exact Below.refl _ _ | exact below_drew (Below.refl _ _) | exact pw_below_drewN (Below.refl _ _) _ | exact below_alloc (Below.refl _ _) _) HF.out HM.out (rd_T40 p.sl key).f0 (rd_T40 p.sl key).f1).mono ?_); rintro e w4 ⟨rfl, h2⟩; (try clear z0); (try clear z1); (try clear z2); (try clear z3); (try clear z4); (try clear y0); (try clear s0); (try clear v0); (try clear v1); (try clear x0); (try clear x1); (try clear a0); (try clear a1); (try clear a2); (try clear a3); (try clear a4); (try clear b0); (try clear c0); (try clear q0); (try clear q1); (try clear q2); (try clear q3); (try clear q4); (try clear q5); (try clear q6); (try clear k0); (try clear k1); (try clear r0); (try clear r1); (try clear g2); (try clear ne); clear HL; have HL := Aside0.mk h2; clear h2; obtain ⟨z0, z1, z2, z3, z4, y0, s0⟩ := HL.out.cells; obtain ⟨v0, v1⟩ := HL.out.boxed (b := p.W.heap.size) (x := (rd_T40 p.sl value).f0) (y := (rd_T40 p.sl value).f1) (by simp); obtain ⟨k0, k1⟩ := HL.out.boxed (b := w2.heap.size) (x := (rd_T40 p.sl key).f0) (y := (rd_T40 p.sl key).f1) (by simp)) | (go_at_call 28; (with_reducible refine (HL.out.need (by first | exact Below.refl _ _ | exact below_drew (Below.refl _ _) | exact pw_below_drewN (Below.refl _ _) _ | exact below_alloc (Below.refl _ _) _) (HF.out.need _ _) HM.out (rd_T40 p.sl value).f0 (rd_T40 p.sl value).f1).mono ?_); rintro e w4 ⟨rfl, h2⟩; (try clear z0); (try clear z1); (try clear z2); (try clear z3); (try clear z4); (try clear y0); (try clear s0); (try clear v0); (try clear v1); (try clear x0); (try clear x1); (try clear a0); (try clear a1); (try clear a2); (try clear a3); (try clear a4); (try clear b0); (try clear c0); (try clear q0); (try clear q1); (try clear q2); (try clear q3); (try clear q4); (try clear q5); (try clear q6); (try clear k0); (try clear k1); (try clear r0); (try clear r1); (try clear g2); (try clear ne); clear HL; have HL := Aside0.mk h2; clear h2; obtain ⟨z0, z1, z2, z3, z4, y0, s0⟩ := HL.out.cells; obtain ⟨v0, v1⟩ := HL.out.boxed (b := p.W.heap.size) (x := (rd_T40 p.sl value).f0) (y := (rd_T40 p.sl value).f1) (by simp); obtain ⟨k0, k1⟩ := HL.out.boxed (b := w2.heap.size) (x := (rd_T40 p.sl key).f0) (y := (rd_T40 p.sl key).f1) (by simp)))
 all_goals (go_end0; exact ⟨rfl, _, HL.out⟩)

set_option maxHeartbeats 8000000 in
set_option maxRecDepth 100000 in
theorem lead2_b2 (p : LP) (s : List Bool × List Int) (hS : LS p p.W [] s) (hF : Fine p.th s) (hm : p.th.length ≤ 1000000) (hC : Kd.C k40 p.w0 (some p.ad) p.sl.length p.sl) (key value : Int) (hv0 : 0 ≤ value) (hv1 : value < p.sl.length) (hw : weakF p.kind p.weak = 1) (hk : 0 ≤ key) (hk1 : key < p.sl.length) (hk2 : weaklyF p.th (rd_T40 p.sl key).f0 (rd_T40 p.sl key).f1 = true) (hn : rdOf false s.1 (objF p.th (rd_T40 p.sl key).f0 (rd_T40 p.sl key).f1 - 1) = true) :
  Calls Try.prog 47 #[.int .i64 key, .int .i64 value, .pointer (some ⟨p.tb, 0, none⟩), .pointer (some ⟨p.gb, 0, none⟩), .pointer (some ⟨p.sb, 0, none⟩)] p.W fun e W' => e = .returned (.tuple #[]) ∧ ∃ bx, LS p W' bx (needF p.th (needF p.th s.1 s.2 (rd_T40 p.sl key).f0 (rd_T40 p.sl key).f1).1 (needF p.th s.1 s.2 (rd_T40 p.sl key).f0 (rd_T40 p.sl key).f1).2 (rd_T40 p.sl value).f0 (rd_T40 p.sl value).f1) := by
 have HM := Aside0.mk hm
 have HF := Aside0.mk hF
 have HC := Aside0.mk hC
 obtain ⟨z0, z1, z2, z3, z4, y0, s0⟩ := hS.cells
 obtain ⟨x0, x1⟩ := hS.slot hC value hv0 hv1
 have HL := Aside0.mk (hS.box (rd_T40 p.sl value).f0 (rd_T40 p.sl value).f1)
 obtain ⟨a0, a1, a2, a3, a4, b0, c0⟩ := HL.out.cells
 obtain ⟨h, hh⟩ : ∃ h, objF p.th (rd_T40 p.sl key).f0 (rd_T40 p.sl key).f1 = h := ⟨_, rfl⟩
 have obd := obj_bd p.th (rd_T40 p.sl key).f0 (rd_T40 p.sl key).f1
 have obp : 0 < objF p.th (rd_T40 p.sl key).f0 (rd_T40 p.sl key).f1 := by
  unfold weaklyF at hk2
  simp only [Bool.and_eq_true, decide_eq_true_eq] at hk2
  exact hk2.2
 rw [hh] at obd obp hn
 obtain ⟨ji, hji⟩ : ∃ j : Int, h - 1 = j := ⟨_, rfl⟩
 have hlen := hF.len
 have jp : 0 ≤ ji := by omega
 have jq : ji < p.th.length := by omega
 have jq2 : ji < (s.1.length : Int) := by omega
 have ew2 : IntKind.i64.wrap (h - 1) = ji := (i64_w _).trans ((w64i_ (by omega) (by omega)).trans hji)
 rw [hji] at hn
 have HO := Aside0.mk hh
 have HN := Aside0.mk hn
 have JP := Aside0.mk jp
 have JQ := Aside0.mk jq
 replace jp := eq_true jp
 replace jq2 := eq_true jq2
 clear hh obd obp hn hji hlen jq
 have HW := Aside0.mk hw
 have HWK := Aside0.mk hk2
 clear hw hk2
 have bk : decide (key < 0) = false := decide_eq_false (by omega)
 have bk2 : decide (key ≥ 0) = true := decide_eq_true hk
 have KP := Aside0.mk hk
 have KL := Aside0.mk hk1
 replace hk := eq_true hk
 replace hk1 := eq_true hk1
 replace hv0 := eq_true hv0
 replace hv1 := eq_true hv1
 clear hm hF hC hS
 go_enter Try.func47, Try.ntmps47
 go_wp2_with (first | (go_at_call 37; (with_reducible refine (HL.out.weak (by first | exact Below.refl _ _ | exact below_drew (Below.refl _ _) | exact pw_below_drewN (Below.refl _ _) _ | exact below_alloc (Below.refl _ _) _)).mono ?_); rintro e w2 ⟨rfl, h2⟩; rw [HW.out]; (try clear z0); (try clear z1); (try clear z2); (try clear z3); (try clear z4); (try clear y0); (try clear s0); (try clear v0); (try clear v1); (try clear x0); (try clear x1); (try clear a0); (try clear a1); (try clear a2); (try clear a3); (try clear a4); (try clear b0); (try clear c0); (try clear q0); (try clear q1); (try clear q2); (try clear q3); (try clear q4); (try clear q5); (try clear q6); (try clear k0); (try clear k1); (try clear r0); (try clear r1); (try clear g2); (try clear ne); clear HL; (try clear HK); have HL := Aside0.mk h2; clear h2; obtain ⟨z0, z1, z2, z3, z4, y0, s0⟩ := HL.out.cells; obtain ⟨v0, v1⟩ := HL.out.boxed (b := p.W.heap.size) (x := (rd_T40 p.sl value).f0) (y := (rd_T40 p.sl value).f1) (by simp); obtain ⟨x0, x1⟩ := HL.out.slot HC.out key KP.out KL.out; have HK := Aside0.mk (HL.out.box (rd_T40 p.sl key).f0 (rd_T40 p.sl key).f1); obtain ⟨q0, q1, q2, q3, q4, q5, q6⟩ := HK.out.cells; obtain ⟨k0, k1⟩ := HK.out.boxed (b := w2.heap.size) (x := (rd_T40 p.sl key).f0) (y := (rd_T40 p.sl key).f1) (by simp); obtain ⟨r0, r1⟩ := HK.out.boxed (b := p.W.heap.size) (x := (rd_T40 p.sl value).f0) (y := (rd_T40 p.sl value).f1) (by simp); obtain ⟨gn, cn, g2, ne⟩ := HK.out.needed HF.out ji JP.out JQ.out; rw [HN.out] at ne))
 go_region_held3 (fun w' : World => w'.cell? ⟨p.gb, 0, none⟩ = some (.pointer (some ⟨p.g, 0, none⟩)) ∧ w'.cell? ⟨w2.heap.size, 0, none⟩ = some (.int .i64 (rd_T40 p.sl key).f0) ∧ w'.cell? ⟨w2.heap.size, 1, none⟩ = some (.int .i64 (rd_T40 p.sl key).f1) ∧ w'.cell? ⟨p.g, 2, none⟩ = some (.slice (some ⟨gn, 0, none⟩) s.1.length cn) ∧ w'.cell? ⟨gn, ji.toNat, none⟩ = some (.bool true)) (first | exact ⟨q5, k0, k1, g2, ne⟩) (first | (go_at_call 40; (with_reducible refine (HK.out.weakly (by first | exact Below.refl _ _ | exact below_drew (Below.refl _ _) | exact pw_below_drewN (Below.refl _ _) _ | exact below_alloc (Below.refl _ _) _) HM.out (rd_T40 p.sl key).f0 (rd_T40 p.sl key).f1).mono ?_); rintro e w3 ⟨rfl, h3⟩; rw [HWK.out]; replace q5 := (h3.cell (cell_lt q5)).trans q5; replace k0 := (h3.cell (cell_lt k0)).trans k0; replace k1 := (h3.cell (cell_lt k1)).trans k1; replace r0 := (h3.cell (cell_lt r0)).trans r0; replace r1 := (h3.cell (cell_lt r1)).trans r1; replace g2 := (h3.cell (cell_lt g2)).trans g2; replace ne := (h3.cell (cell_lt ne)).trans ne; have n1 := Aside0.mk (HK.out.below h3); clear h3 HK; have HK := n1; clear n1) | (go_at_call 33; (with_reducible refine (HK.out.object (by first | exact Below.refl _ _ | exact below_drew (Below.refl _ _) | exact pw_below_drewN (Below.refl _ _) _ | exact below_alloc (Below.refl _ _) _) HM.out (rd_T40 p.sl key).f0 (rd_T40 p.sl key).f1).mono ?_); rintro e w3 ⟨rfl, h3⟩; rw [HO.out]; replace q5 := (h3.cell (cell_lt q5)).trans q5; replace k0 := (h3.cell (cell_lt k0)).trans k0; replace k1 := (h3.cell (cell_lt k1)).trans k1; replace r0 := (h3.cell (cell_lt r0)).trans r0; replace r1 := (h3.cell (cell_lt r1)).trans r1; replace g2 := (h3.cell (cell_lt g2)).trans g2; replace ne := (h3.cell (cell_lt ne)).trans ne; have n1 := Aside0.mk (HK.out.below h3); clear h3 HK; have HK := n1; clear n1))
 clear HL
 have HL := HK
 clear HK
 go_wp2_with (first | (go_at_call 28; (with_reducible refine (HL.out.need (by first | exact Below.refl _ _ | exact below_drew (Below.refl _ _) | exact pw_below_drewN (Below.refl _ _) _ | exact below_alloc (Below.refl _ _) _) HF.out HM.out (rd_T40 p.sl key).f0 (rd_T40 p.sl key).f1).mono ?_); rintro e w4 ⟨rfl, h2⟩; (try clear z0); (try clear z1); (try clear z2); (try clear z3); (try clear z4); (try clear y0); (try clear s0); (try clear v0); (try clear v1); (try clear x0); (try clear x1); (try clear a0); (try clear a1); (try clear a2); (try clear a3); (try clear a4); (try clear b0); (try clear c0); (try clear q0); (try clear q1); (try clear q2); (try clear q3); (try clear q4); (try clear q5); (try clear q6); (try clear k0); (try clear k1); (try clear r0); (try clear r1); (try clear g2); (try clear ne); clear HL; have HL := Aside0.mk h2; clear h2; obtain ⟨z0, z1, z2, z3, z4, y0, s0⟩ := HL.out.cells; obtain ⟨v0, v1⟩ := HL.out.boxed (b := p.W.heap.size) (x := (rd_T40 p.sl value).f0) (y := (rd_T40 p.sl value).f1) (by simp); obtain ⟨k0, k1⟩ := HL.out.boxed (b := w2.heap.size) (x := (rd_T40 p.sl key).f0) (y := (rd_T40 p.sl key).f1) (by simp)) | (go_at_call 28; (with_reducible refine (HL.out.need (by first | exact Below.refl _ _ | exact below_drew (Below.refl _ _) | exact pw_below_drewN (Below.refl _ _) _ | exact below_alloc (Below.refl _ _) _) (HF.out.need _ _) HM.out (rd_T40 p.sl value).f0 (rd_T40 p.sl value).f1).mono ?_); rintro e w4 ⟨rfl, h2⟩; (try clear z0); (try clear z1); (try clear z2); (try clear z3); (try clear z4); (try clear y0); (try clear s0); (try clear v0); (try clear v1); (try clear x0); (try clear x1); (try clear a0); (try clear a1); (try clear a2); (try clear a3); (try clear a4); (try clear b0); (try clear c0); (try clear q0); (try clear q1); (try clear q2); (try clear q3); (try clear q4); (try clear q5); (try clear q6); (try clear k0); (try clear k1); (try clear r0); (try clear r1); (try clear g2); (try clear ne); clear HL; have HL := Aside0.mk h2; clear h2; obtain ⟨z0, z1, z2, z3, z4, y0, s0⟩ := HL.out.cells; obtain ⟨v0, v1⟩ := HL.out.boxed (b := p.W.heap.size) (x := (rd_T40 p.sl value).f0) (y := (rd_T40 p.sl value).f1) (by simp); obtain ⟨k0, k1⟩ := HL.out.boxed (b := w2.heap.size) (x := (rd_T40 p.sl key).f0) (y := (rd_T40 p.sl key).f1) (by simp)))
 go_end0
 exact ⟨rfl, _, HL.out⟩

set_option maxHeartbeats 8000000 in
set_option maxRecDepth 100000 in
theorem lead2_c (p : LP) (s : List Bool × List Int) (hS : LS p p.W [] s) (hF : Fine p.th s) (hm : p.th.length ≤ 1000000) (hC : Kd.C k40 p.w0 (some p.ad) p.sl.length p.sl) (key value : Int) (hv0 : 0 ≤ value) (hv1 : value < p.sl.length) (hw : weakF p.kind p.weak = 1) (hk : 0 ≤ key) (hk1 : key < p.sl.length) (hk2 : weaklyF p.th (rd_T40 p.sl key).f0 (rd_T40 p.sl key).f1 = true) (hn : rdOf false s.1 (objF p.th (rd_T40 p.sl key).f0 (rd_T40 p.sl key).f1 - 1) = false) :
  Calls Try.prog 47 #[.int .i64 key, .int .i64 value, .pointer (some ⟨p.tb, 0, none⟩), .pointer (some ⟨p.gb, 0, none⟩), .pointer (some ⟨p.sb, 0, none⟩)] p.W fun e W' => e = .returned (.tuple #[]) ∧ ∃ bx, LS p W' bx (s) := by
 have HM := Aside0.mk hm
 have HF := Aside0.mk hF
 have HC := Aside0.mk hC
 obtain ⟨z0, z1, z2, z3, z4, y0, s0⟩ := hS.cells
 obtain ⟨x0, x1⟩ := hS.slot hC value hv0 hv1
 have HL := Aside0.mk (hS.box (rd_T40 p.sl value).f0 (rd_T40 p.sl value).f1)
 obtain ⟨a0, a1, a2, a3, a4, b0, c0⟩ := HL.out.cells
 obtain ⟨h, hh⟩ : ∃ h, objF p.th (rd_T40 p.sl key).f0 (rd_T40 p.sl key).f1 = h := ⟨_, rfl⟩
 have obd := obj_bd p.th (rd_T40 p.sl key).f0 (rd_T40 p.sl key).f1
 have obp : 0 < objF p.th (rd_T40 p.sl key).f0 (rd_T40 p.sl key).f1 := by
  unfold weaklyF at hk2
  simp only [Bool.and_eq_true, decide_eq_true_eq] at hk2
  exact hk2.2
 rw [hh] at obd obp hn
 obtain ⟨ji, hji⟩ : ∃ j : Int, h - 1 = j := ⟨_, rfl⟩
 have hlen := hF.len
 have jp : 0 ≤ ji := by omega
 have jq : ji < p.th.length := by omega
 have jq2 : ji < (s.1.length : Int) := by omega
 have ew2 : IntKind.i64.wrap (h - 1) = ji := (i64_w _).trans ((w64i_ (by omega) (by omega)).trans hji)
 rw [hji] at hn
 have HO := Aside0.mk hh
 have HN := Aside0.mk hn
 have JP := Aside0.mk jp
 have JQ := Aside0.mk jq
 replace jp := eq_true jp
 replace jq2 := eq_true jq2
 clear hh obd obp hn hji hlen jq
 have HW := Aside0.mk hw
 have HWK := Aside0.mk hk2
 clear hw hk2
 have bk : decide (key < 0) = false := decide_eq_false (by omega)
 have bk2 : decide (key ≥ 0) = true := decide_eq_true hk
 have KP := Aside0.mk hk
 have KL := Aside0.mk hk1
 replace hk := eq_true hk
 replace hk1 := eq_true hk1
 replace hv0 := eq_true hv0
 replace hv1 := eq_true hv1
 clear hm hF hC hS
 go_enter Try.func47, Try.ntmps47
 go_wp2_with (first | (go_at_call 37; (with_reducible refine (HL.out.weak (by first | exact Below.refl _ _ | exact below_drew (Below.refl _ _) | exact pw_below_drewN (Below.refl _ _) _ | exact below_alloc (Below.refl _ _) _)).mono ?_); rintro e w2 ⟨rfl, h2⟩; rw [HW.out]; (try clear z0); (try clear z1); (try clear z2); (try clear z3); (try clear z4); (try clear y0); (try clear s0); (try clear v0); (try clear v1); (try clear x0); (try clear x1); (try clear a0); (try clear a1); (try clear a2); (try clear a3); (try clear a4); (try clear b0); (try clear c0); (try clear q0); (try clear q1); (try clear q2); (try clear q3); (try clear q4); (try clear q5); (try clear q6); (try clear k0); (try clear k1); (try clear r0); (try clear r1); (try clear g2); (try clear ne); clear HL; (try clear HK); have HL := Aside0.mk h2; clear h2; obtain ⟨z0, z1, z2, z3, z4, y0, s0⟩ := HL.out.cells; obtain ⟨v0, v1⟩ := HL.out.boxed (b := p.W.heap.size) (x := (rd_T40 p.sl value).f0) (y := (rd_T40 p.sl value).f1) (by simp); obtain ⟨x0, x1⟩ := HL.out.slot HC.out key KP.out KL.out; have HK := Aside0.mk (HL.out.box (rd_T40 p.sl key).f0 (rd_T40 p.sl key).f1); obtain ⟨q0, q1, q2, q3, q4, q5, q6⟩ := HK.out.cells; obtain ⟨k0, k1⟩ := HK.out.boxed (b := w2.heap.size) (x := (rd_T40 p.sl key).f0) (y := (rd_T40 p.sl key).f1) (by simp); obtain ⟨r0, r1⟩ := HK.out.boxed (b := p.W.heap.size) (x := (rd_T40 p.sl value).f0) (y := (rd_T40 p.sl value).f1) (by simp); obtain ⟨gn, cn, g2, ne⟩ := HK.out.needed HF.out ji JP.out JQ.out; rw [HN.out] at ne))
 go_region_held3 (fun w' : World => w'.cell? ⟨p.gb, 0, none⟩ = some (.pointer (some ⟨p.g, 0, none⟩)) ∧ w'.cell? ⟨w2.heap.size, 0, none⟩ = some (.int .i64 (rd_T40 p.sl key).f0) ∧ w'.cell? ⟨w2.heap.size, 1, none⟩ = some (.int .i64 (rd_T40 p.sl key).f1) ∧ w'.cell? ⟨p.g, 2, none⟩ = some (.slice (some ⟨gn, 0, none⟩) s.1.length cn) ∧ w'.cell? ⟨gn, ji.toNat, none⟩ = some (.bool false)) (first | exact ⟨q5, k0, k1, g2, ne⟩) (first | (go_at_call 40; (with_reducible refine (HK.out.weakly (by first | exact Below.refl _ _ | exact below_drew (Below.refl _ _) | exact pw_below_drewN (Below.refl _ _) _ | exact below_alloc (Below.refl _ _) _) HM.out (rd_T40 p.sl key).f0 (rd_T40 p.sl key).f1).mono ?_); rintro e w3 ⟨rfl, h3⟩; rw [HWK.out]; replace q5 := (h3.cell (cell_lt q5)).trans q5; replace k0 := (h3.cell (cell_lt k0)).trans k0; replace k1 := (h3.cell (cell_lt k1)).trans k1; replace r0 := (h3.cell (cell_lt r0)).trans r0; replace r1 := (h3.cell (cell_lt r1)).trans r1; replace g2 := (h3.cell (cell_lt g2)).trans g2; replace ne := (h3.cell (cell_lt ne)).trans ne; have n1 := Aside0.mk (HK.out.below h3); clear h3 HK; have HK := n1; clear n1) | (go_at_call 33; (with_reducible refine (HK.out.object (by first | exact Below.refl _ _ | exact below_drew (Below.refl _ _) | exact pw_below_drewN (Below.refl _ _) _ | exact below_alloc (Below.refl _ _) _) HM.out (rd_T40 p.sl key).f0 (rd_T40 p.sl key).f1).mono ?_); rintro e w3 ⟨rfl, h3⟩; rw [HO.out]; replace q5 := (h3.cell (cell_lt q5)).trans q5; replace k0 := (h3.cell (cell_lt k0)).trans k0; replace k1 := (h3.cell (cell_lt k1)).trans k1; replace r0 := (h3.cell (cell_lt r0)).trans r0; replace r1 := (h3.cell (cell_lt r1)).trans r1; replace g2 := (h3.cell (cell_lt g2)).trans g2; replace ne := (h3.cell (cell_lt ne)).trans ne; have n1 := Aside0.mk (HK.out.below h3); clear h3 HK; have HK := n1; clear n1))
 go_wp2
 go_end0
 exact ⟨rfl, _, HK.out⟩

set_option maxHeartbeats 8000000 in
set_option maxRecDepth 100000 in
theorem lead2_d (p : LP) (s : List Bool × List Int) (hS : LS p p.W [] s) (hF : Fine p.th s) (hm : p.th.length ≤ 1000000) (hC : Kd.C k40 p.w0 (some p.ad) p.sl.length p.sl) (key value : Int) (hv0 : 0 ≤ value) (hv1 : value < p.sl.length) (hw2 : weakF p.kind p.weak = 2) (hk : 0 ≤ key) (hk1 : key < p.sl.length) :
  Calls Try.prog 47 #[.int .i64 key, .int .i64 value, .pointer (some ⟨p.tb, 0, none⟩), .pointer (some ⟨p.gb, 0, none⟩), .pointer (some ⟨p.sb, 0, none⟩)] p.W fun e W' => e = .returned (.tuple #[]) ∧ ∃ bx, LS p W' bx (strF p.th (needF p.th s.1 s.2 (rd_T40 p.sl key).f0 (rd_T40 p.sl key).f1).1 (needF p.th s.1 s.2 (rd_T40 p.sl key).f0 (rd_T40 p.sl key).f1).2 (rd_T40 p.sl value).f0 (rd_T40 p.sl value).f1) := by
 have HM := Aside0.mk hm
 have HF := Aside0.mk hF
 have HC := Aside0.mk hC
 obtain ⟨z0, z1, z2, z3, z4, y0, s0⟩ := hS.cells
 obtain ⟨x0, x1⟩ := hS.slot hC value hv0 hv1
 have HL := Aside0.mk (hS.box (rd_T40 p.sl value).f0 (rd_T40 p.sl value).f1)
 obtain ⟨a0, a1, a2, a3, a4, b0, c0⟩ := HL.out.cells
 have HW := Aside0.mk hw2
 clear hw2
 have bk : decide (key < 0) = false := decide_eq_false (by omega)
 have bk2 : decide (key ≥ 0) = true := decide_eq_true hk
 have KP := Aside0.mk hk
 have KL := Aside0.mk hk1
 replace hk := eq_true hk
 replace hk1 := eq_true hk1
 replace hv0 := eq_true hv0
 replace hv1 := eq_true hv1
 clear hm hF hC hS
 go_enter Try.func47, Try.ntmps47
 go_wp2_with (first | (go_at_call 37; (with_reducible refine (HL.out.weak (by first | exact Below.refl _ _ | exact below_drew (Below.refl _ _) | exact pw_below_drewN (Below.refl _ _) _ | exact below_alloc (Below.refl _ _) _)).mono ?_); rintro e w2 ⟨rfl, h2⟩; rw [HW.out]; (first | (clear z0 z1 z2 z3 z4 y0 s0 x0 x1 a0 a1 a2 a3 a4 b0 c0 HL) | (clear z0 z1 z2 z3 z4 y0 s0 v0 v1; (try clear k0 k1); (try clear x0 x1); clear HL)); have HL := Aside0.mk h2; clear h2; obtain ⟨z0, z1, z2, z3, z4, y0, s0⟩ := HL.out.cells; obtain ⟨v0, v1⟩ := HL.out.boxed (b := p.W.heap.size) (x := (rd_T40 p.sl value).f0) (y := (rd_T40 p.sl value).f1) (by simp); obtain ⟨x0, x1⟩ := HL.out.slot HC.out key KP.out KL.out))
 go_region_held3 (fun w' : World => w'.cell? ⟨p.gb, 0, none⟩ = some (.pointer (some ⟨p.g, 0, none⟩)) ∧ w'.cell? ⟨p.tb, 3, none⟩ = some (.slice (some p.ad) p.sl.length p.c) ∧ w'.cell? (p.ad.add (key.toNat * 2)) = some (.int .i64 (rd_T40 p.sl key).f0) ∧ w'.cell? ⟨(p.ad.add (key.toNat * 2)).block, (p.ad.add (key.toNat * 2)).off + 1, none⟩ = some (.int .i64 (rd_T40 p.sl key).f1)) (first | exact ⟨y0, z3, x0, x1⟩) (first | (go_at_call 28; (with_reducible refine (HL.out.need (by first | exact Below.refl _ _ | exact below_drew (Below.refl _ _) | exact pw_below_drewN (Below.refl _ _) _ | exact below_alloc (Below.refl _ _) _) HF.out HM.out (rd_T40 p.sl key).f0 (rd_T40 p.sl key).f1).mono ?_); rintro e w2 ⟨rfl, h2⟩; clear z0 z1 z2 z3 z4 y0 s0 v0 v1; (try clear k0 k1); (try clear x0 x1); clear HL; have HL := Aside0.mk h2; clear h2; obtain ⟨z0, z1, z2, z3, z4, y0, s0⟩ := HL.out.cells; obtain ⟨v0, v1⟩ := HL.out.boxed (b := p.W.heap.size) (x := (rd_T40 p.sl value).f0) (y := (rd_T40 p.sl value).f1) (by simp); obtain ⟨x0, x1⟩ := HL.out.slot HC.out key KP.out KL.out))
 go_wp2_with (first | (go_at_call 46; (with_reducible refine (HL.out.str (by first | exact Below.refl _ _ | exact below_drew (Below.refl _ _) | exact pw_below_drewN (Below.refl _ _) _ | exact below_alloc (Below.refl _ _) _) (HF.out.need _ _) HM.out (rd_T40 p.sl value).f0 (rd_T40 p.sl value).f1).mono ?_); rintro e w2 ⟨rfl, h2⟩; clear z0 z1 z2 z3 z4 y0 s0 v0 v1; (try clear k0 k1); (try clear x0 x1); clear HL; have HL := Aside0.mk h2; clear h2; obtain ⟨z0, z1, z2, z3, z4, y0, s0⟩ := HL.out.cells; obtain ⟨v0, v1⟩ := HL.out.boxed (b := p.W.heap.size) (x := (rd_T40 p.sl value).f0) (y := (rd_T40 p.sl value).f1) (by simp); obtain ⟨x0, x1⟩ := HL.out.slot HC.out key KP.out KL.out))
 go_end0
 exact ⟨rfl, _, HL.out⟩

set_option maxHeartbeats 8000000 in
set_option maxRecDepth 100000 in
theorem lead2_e1 (p : LP) (s : List Bool × List Int) (hS : LS p p.W [] s) (hF : Fine p.th s) (hm : p.th.length ≤ 1000000) (hC : Kd.C k40 p.w0 (some p.ad) p.sl.length p.sl) (key value : Int) (hv0 : 0 ≤ value) (hv1 : value < p.sl.length) (hw : weakF p.kind p.weak ≠ 1) (hw2 : weakF p.kind p.weak ≠ 2) (hk : 0 ≤ key) (hk1 : key < p.sl.length) :
  Calls Try.prog 47 #[.int .i64 key, .int .i64 value, .pointer (some ⟨p.tb, 0, none⟩), .pointer (some ⟨p.gb, 0, none⟩), .pointer (some ⟨p.sb, 0, none⟩)] p.W fun e W' => e = .returned (.tuple #[]) ∧ ∃ bx, LS p W' bx (strF p.th (strF p.th s.1 s.2 (rd_T40 p.sl key).f0 (rd_T40 p.sl key).f1).1 (strF p.th s.1 s.2 (rd_T40 p.sl key).f0 (rd_T40 p.sl key).f1).2 (rd_T40 p.sl value).f0 (rd_T40 p.sl value).f1) := by
 have HM := Aside0.mk hm
 have HF := Aside0.mk hF
 have HC := Aside0.mk hC
 obtain ⟨z0, z1, z2, z3, z4, y0, s0⟩ := hS.cells
 obtain ⟨x0, x1⟩ := hS.slot hC value hv0 hv1
 have HL := Aside0.mk (hS.box (rd_T40 p.sl value).f0 (rd_T40 p.sl value).f1)
 obtain ⟨a0, a1, a2, a3, a4, b0, c0⟩ := HL.out.cells
 obtain ⟨wv, hwv⟩ : ∃ wv, weakF p.kind p.weak = wv := ⟨_, rfl⟩
 rw [hwv] at hw hw2
 have c1 : (wv == 1) = false := beq_eq_false_iff_ne.mpr hw
 have HW := Aside0.mk hwv
 clear hwv hw
 have c2 : (wv == 2) = false := beq_eq_false_iff_ne.mpr hw2
 clear hw2
 have bk : decide (key < 0) = false := decide_eq_false (by omega)
 have bk2 : decide (key ≥ 0) = true := decide_eq_true hk
 have KP := Aside0.mk hk
 have KL := Aside0.mk hk1
 replace hk := eq_true hk
 replace hk1 := eq_true hk1
 replace hv0 := eq_true hv0
 replace hv1 := eq_true hv1
 clear hm hF hC hS
 go_enter Try.func47, Try.ntmps47
 go_wp2_with (first | (go_at_call 37; (with_reducible refine (HL.out.weak (by first | exact Below.refl _ _ | exact below_drew (Below.refl _ _) | exact pw_below_drewN (Below.refl _ _) _ | exact below_alloc (Below.refl _ _) _)).mono ?_); rintro e w2 ⟨rfl, h2⟩; rw [HW.out]; (first | (clear z0 z1 z2 z3 z4 y0 s0 x0 x1 a0 a1 a2 a3 a4 b0 c0 HL) | (clear z0 z1 z2 z3 z4 y0 s0 v0 v1; (try clear k0 k1); (try clear x0 x1); clear HL)); have HL := Aside0.mk h2; clear h2; obtain ⟨z0, z1, z2, z3, z4, y0, s0⟩ := HL.out.cells; obtain ⟨v0, v1⟩ := HL.out.boxed (b := p.W.heap.size) (x := (rd_T40 p.sl value).f0) (y := (rd_T40 p.sl value).f1) (by simp); obtain ⟨x0, x1⟩ := HL.out.slot HC.out key KP.out KL.out))
 go_region_held3 (fun w' : World => w'.cell? ⟨p.sb, 0, none⟩ = some (.func (.func 46) #[] #[.pointer (some ⟨p.gb, 0, none⟩)]) ∧ w'.cell? ⟨p.tb, 3, none⟩ = some (.slice (some p.ad) p.sl.length p.c) ∧ w'.cell? (p.ad.add (key.toNat * 2)) = some (.int .i64 (rd_T40 p.sl key).f0) ∧ w'.cell? ⟨(p.ad.add (key.toNat * 2)).block, (p.ad.add (key.toNat * 2)).off + 1, none⟩ = some (.int .i64 (rd_T40 p.sl key).f1)) (first | exact ⟨s0, z3, x0, x1⟩) (first | (go_at_call 46; (with_reducible refine (HL.out.str (by first | exact Below.refl _ _ | exact below_drew (Below.refl _ _) | exact pw_below_drewN (Below.refl _ _) _ | exact below_alloc (Below.refl _ _) _) HF.out HM.out (rd_T40 p.sl key).f0 (rd_T40 p.sl key).f1).mono ?_); rintro e w2 ⟨rfl, h2⟩; clear z0 z1 z2 z3 z4 y0 s0 v0 v1; (try clear k0 k1); (try clear x0 x1); clear HL; have HL := Aside0.mk h2; clear h2; obtain ⟨z0, z1, z2, z3, z4, y0, s0⟩ := HL.out.cells; obtain ⟨v0, v1⟩ := HL.out.boxed (b := p.W.heap.size) (x := (rd_T40 p.sl value).f0) (y := (rd_T40 p.sl value).f1) (by simp); obtain ⟨x0, x1⟩ := HL.out.slot HC.out key KP.out KL.out))
 go_wp2_with (first | (go_at_call 46; (with_reducible refine (HL.out.str (by first | exact Below.refl _ _ | exact below_drew (Below.refl _ _) | exact pw_below_drewN (Below.refl _ _) _ | exact below_alloc (Below.refl _ _) _) (HF.out.str _ _) HM.out (rd_T40 p.sl value).f0 (rd_T40 p.sl value).f1).mono ?_); rintro e w2 ⟨rfl, h2⟩; clear z0 z1 z2 z3 z4 y0 s0 v0 v1; (try clear k0 k1); (try clear x0 x1); clear HL; have HL := Aside0.mk h2; clear h2; obtain ⟨z0, z1, z2, z3, z4, y0, s0⟩ := HL.out.cells; obtain ⟨v0, v1⟩ := HL.out.boxed (b := p.W.heap.size) (x := (rd_T40 p.sl value).f0) (y := (rd_T40 p.sl value).f1) (by simp); obtain ⟨x0, x1⟩ := HL.out.slot HC.out key KP.out KL.out))
 go_end0
 exact ⟨rfl, _, HL.out⟩

set_option maxHeartbeats 8000000 in
set_option maxRecDepth 100000 in
theorem lead2_e2 (p : LP) (s : List Bool × List Int) (hS : LS p p.W [] s) (hF : Fine p.th s) (hm : p.th.length ≤ 1000000) (hC : Kd.C k40 p.w0 (some p.ad) p.sl.length p.sl) (key value : Int) (hv0 : 0 ≤ value) (hv1 : value < p.sl.length) (hw : weakF p.kind p.weak ≠ 1) (hk : key < 0) :
  Calls Try.prog 47 #[.int .i64 key, .int .i64 value, .pointer (some ⟨p.tb, 0, none⟩), .pointer (some ⟨p.gb, 0, none⟩), .pointer (some ⟨p.sb, 0, none⟩)] p.W fun e W' => e = .returned (.tuple #[]) ∧ ∃ bx, LS p W' bx (strF p.th s.1 s.2 (rd_T40 p.sl value).f0 (rd_T40 p.sl value).f1) := by
 have HM := Aside0.mk hm
 have HF := Aside0.mk hF
 have HC := Aside0.mk hC
 obtain ⟨z0, z1, z2, z3, z4, y0, s0⟩ := hS.cells
 obtain ⟨x0, x1⟩ := hS.slot hC value hv0 hv1
 have HL := Aside0.mk (hS.box (rd_T40 p.sl value).f0 (rd_T40 p.sl value).f1)
 obtain ⟨a0, a1, a2, a3, a4, b0, c0⟩ := HL.out.cells
 have bk : decide (key ≥ 0) = false := decide_eq_false (by omega)
 obtain ⟨wv, hwv⟩ : ∃ wv, weakF p.kind p.weak = wv := ⟨_, rfl⟩
 rw [hwv] at hw
 have c1 : (wv == 1) = false := beq_eq_false_iff_ne.mpr hw
 have HW := Aside0.mk hwv
 clear hwv hw
 clear hk
 replace hv0 := eq_true hv0
 replace hv1 := eq_true hv1
 clear hm hF hC hS
 go_enter Try.func47, Try.ntmps47
 go_wp2_with (first | (go_at_call 37; (with_reducible refine (HL.out.weak (by first | exact Below.refl _ _ | exact below_drew (Below.refl _ _) | exact pw_below_drewN (Below.refl _ _) _ | exact below_alloc (Below.refl _ _) _)).mono ?_); rintro e w2 ⟨rfl, h2⟩; rw [HW.out]; (first | (clear z0 z1 z2 z3 z4 y0 s0 x0 x1 a0 a1 a2 a3 a4 b0 c0 HL) | (clear z0 z1 z2 z3 z4 y0 s0 v0 v1; (try clear k0 k1); (try clear x0 x1); clear HL)); have HL := Aside0.mk h2; clear h2; obtain ⟨z0, z1, z2, z3, z4, y0, s0⟩ := HL.out.cells; obtain ⟨v0, v1⟩ := HL.out.boxed (b := p.W.heap.size) (x := (rd_T40 p.sl value).f0) (y := (rd_T40 p.sl value).f1) (by simp)) | (go_at_call 46; (with_reducible refine (HL.out.str (by first | exact Below.refl _ _ | exact below_drew (Below.refl _ _) | exact pw_below_drewN (Below.refl _ _) _ | exact below_alloc (Below.refl _ _) _) HF.out HM.out (rd_T40 p.sl value).f0 (rd_T40 p.sl value).f1).mono ?_); rintro e w2 ⟨rfl, h2⟩; clear z0 z1 z2 z3 z4 y0 s0 v0 v1; (try clear k0 k1); (try clear x0 x1); clear HL; have HL := Aside0.mk h2; clear h2; obtain ⟨z0, z1, z2, z3, z4, y0, s0⟩ := HL.out.cells; obtain ⟨v0, v1⟩ := HL.out.boxed (b := p.W.heap.size) (x := (rd_T40 p.sl value).f0) (y := (rd_T40 p.sl value).f1) (by simp)))
 all_goals (go_end0; exact ⟨rfl, _, HL.out⟩)

/-- lead's second closure: whatever the way -/
theorem lead2_calls (p : LP) (s : List Bool × List Int) (hS : LS p p.W [] s) (hF : Fine p.th s) (hm : p.th.length ≤ 1000000) (hC : Kd.C k40 p.w0 (some p.ad) p.sl.length p.sl) (key value : Int) (hv0 : 0 ≤ value) (hv1 : value < p.sl.length) (hk1 : key < p.sl.length) :
  Calls Try.prog 47 #[.int .i64 key, .int .i64 value, .pointer (some ⟨p.tb, 0, none⟩), .pointer (some ⟨p.gb, 0, none⟩), .pointer (some ⟨p.sb, 0, none⟩)] p.W fun e W' => e = .returned (.tuple #[]) ∧ ∃ bx, LS p W' bx (stepF p.th p.kind p.weak p.sl s key value) := by
 unfold stepF
 by_cases hw : weakF p.kind p.weak = 1
 ·rw [if_pos hw]
  by_cases hk : key < 0
  ·rw [if_pos hk]
   exact lead2_a p s hS hF hm hC key value hv0 hv1 hw hk
  ·rw [if_neg hk]
   by_cases hk2 : weaklyF p.th (rd_T40 p.sl key).f0 (rd_T40 p.sl key).f1 = false
   ·rw [if_pos (.inl hk2)]
    exact lead2_b1 p s hS hF hm hC key value hv0 hv1 hw (by omega) hk1 hk2
   ·have hk3 : weaklyF p.th (rd_T40 p.sl key).f0 (rd_T40 p.sl key).f1 = true := by simpa using hk2
    by_cases hn : rdOf false s.1 (objF p.th (rd_T40 p.sl key).f0 (rd_T40 p.sl key).f1 - 1) = true
    ·rw [if_pos (.inr hn)]
     exact lead2_b2 p s hS hF hm hC key value hv0 hv1 hw (by omega) hk1 hk3 hn
    ·rw [if_neg (by rintro (z | z); exact hk2 z; exact hn z)]
     exact lead2_c p s hS hF hm hC key value hv0 hv1 hw (by omega) hk1 hk3 (by simpa using hn)
 ·rw [if_neg hw]
  by_cases hk : 0 ≤ key
  ·by_cases hw2 : weakF p.kind p.weak = 2
   ·rw [if_pos ⟨hw2, hk⟩]
    exact lead2_d p s hS hF hm hC key value hv0 hv1 hw2 hk hk1
   ·rw [if_neg (fun z => hw2 z.1), if_pos hk]
    exact lead2_e1 p s hS hF hm hC key value hv0 hv1 hw hw2 hk hk1
  ·rw [if_neg (fun z => hk z.2), if_neg hk]
   exact lead2_e2 p s hS hF hm hC key value hv0 hv1 hw (by omega)
end Go.Proofs.Ytollnnbcfhnlfaa.Rg

/- reach: slots, walked: it goes over the places of a table's keys and values, whatever is done there. -/
set_option linter.unusedVariables false
set_option linter.unusedSimpArgs false
namespace Go.Proofs.Ytollnnbcfhnlfaa.Rg
open Go.Proofs.Ytollnnbcfhnlfaa.Sh
open Go.RowKit Go.Proofs.Ytollnnbcfhnlfaa.QR Go.Proofs.YtollnnbcfhnlfaaW.PrintWords Go.Proofs.YtollnnbcfhnlfaaW.PrintLast Go.Proofs.YtollnnbcfhnlfaaW.PrintMore
/-- how many places stand in the array's part -/
def sA (L : Nat) (arr : Int) : Nat := min (L - 1) arr.toNat
/-- how many pairs stand behind it -/
def sP (L : Nat) (arr : Int) : Nat := (L - (1 + sA L arr)) / 2
def sl1 (j : Nat) : List (Int × Int) := (List.range j).map (fun i : Nat => ((-1 : Int), (1 + i : Int)))
def sl2 (a j : Nat) : List (Int × Int) := (List.range j).map (fun i : Nat => ((1 + a + 2 * i : Int), (1 + a + 2 * i + 1 : Int)))
def sl3 (L : Nat) (arr : Int) : List (Int × Int) := if 1 + sA L arr + 2 * sP L arr < L then [((-1 : Int), (1 + sA L arr + 2 * sP L arr : Int))] else []
/-- the places of keys (-1: none) and values, in the order in which they are gone over -/
def slotsL (L : Nat) (arr : Int) : List (Int × Int) := sl1 (sA L arr) ++ sl2 (sA L arr) (sP L arr) ++ sl3 L arr
theorem sl1_len (j : Nat) : (sl1 j).length = j := by simp [sl1]
theorem sl2_len (a j : Nat) : (sl2 a j).length = j := by simp [sl2]
theorem sl1_succ (j : Nat) : sl1 (j + 1) = sl1 j ++ [((-1 : Int), (1 + j : Int))] := by simp [sl1, List.range_succ]
theorem sl2_succ (a j : Nat) : sl2 a (j + 1) = sl2 a j ++ [((1 + a + 2 * j : Int), (1 + a + 2 * j + 1 : Int))] := by simp [sl2, List.range_succ]
set_option maxHeartbeats 8000000 in
set_option maxRecDepth 100000 in
theorem slots_calls47 {σ : Type} (Inv : World → σ → Prop) (step : σ → Int × Int → σ) (W : World) (s0 : σ) (kind weak arr fin : Int) (A : Option Addr) (L c : Nat) (hL : L ≤ 1000000) (v0 v1 v2 : Value)
  (hst : ∀ (pre : List (Int × Int)) w wx key value, pre.length < L → Inv w (pre.foldl step s0) → Below w.heap.size w wx → -1 ≤ key → key < (L : Int) → value < (L : Int) → 0 ≤ value → Calls Try.prog 47 #[.int .i64 key, .int .i64 value, v0, v1, v2] wx fun e w' => e = .returned (.tuple #[]) ∧ Inv w' (step (pre.foldl step s0) (key, value)) ∧ ∀ (k : Nat) (cs : Array Value), w.heap[k]? = some (.cells cs 43 (0, 0)) → w'.heap[k]? = some (.cells cs 43 (0, 0)))
  (hbe : ∀ s w wx, Inv w s → Below w.heap.size w wx → Inv wx s) (h0 : Inv W s0) :
  Calls Try.prog 38 #[.agg #[.int .i64 kind, .int .i64 weak, .int .i64 arr, .slice A L c, .int .i64 fin], .func (.func 47) #[] #[v0, v1, v2]] W fun e W' => e = .returned (.tuple #[]) ∧ Inv W' ((slotsL L arr).foldl step s0) := by
 have HST := Aside0.mk hst
 have HB := Aside0.mk hbe
 have HI0 := Aside0.mk (hbe _ _ _ h0 (below_alloc (Below.refl _ _) (.cells #[.int .i64 kind, .int .i64 weak, .int .i64 arr, .slice A L c, .int .i64 fin] 43 (0, 0))))
 have BK0 := Aside0.mk (alloc_at W (.cells #[.int .i64 kind, .int .i64 weak, .int .i64 arr, .slice A L c, .int .i64 fin] 43 (0, 0)))
 have HLB := Aside0.mk hL
 clear hst hbe h0 hL
 go_enter Try.func38, Try.ntmps38
 go_wp2
 go_loopg [4] (sA L arr) (fun kq v4 w' => ∃ (j : Nat) (at_ : Int), v4 = .int .i64 at_ ∧ Aside0 (at_ = 1 + j) ∧ Aside0 (j + kq = sA L arr) ∧ Aside0 (w'.heap[W.heap.size]? = some (.cells #[.int .i64 kind, .int .i64 weak, .int .i64 arr, .slice A L c, .int .i64 fin] 43 (0, 0))) ∧ Aside0 (Inv w' ((sl1 j).foldl step s0)))
 case atStart => exact ⟨0, 1, rfl, ⟨rfl⟩, ⟨by omega⟩, ⟨BK0.out⟩, ⟨HI0.out⟩⟩
 case round =>
  obtain ⟨j, at_, hv, AT, JK, BK, HI⟩ := hrel
  subst hv
  clear BK0 HI0
  have z0 : wr.cell? ⟨W.heap.size, 0, none⟩ = some (.int .i64 kind) := blk_cell BK.out 0
  have z1 : wr.cell? ⟨W.heap.size, 1, none⟩ = some (.int .i64 weak) := blk_cell BK.out 1
  have z2 : wr.cell? ⟨W.heap.size, 2, none⟩ = some (.int .i64 arr) := blk_cell BK.out 2
  have z3 : wr.cell? ⟨W.heap.size, 3, none⟩ = some (.slice A L c) := blk_cell BK.out 3
  have z4 : wr.cell? ⟨W.heap.size, 4, none⟩ = some (.int .i64 fin) := blk_cell BK.out 4
  have LB := HLB.out
  have atv := AT.out
  have jkv := JK.out
  have sav : sA L arr = min (L - 1) arr.toNat := rfl
  rcases gk with _ | gk
  ·have AT' := Aside0.mk (show (at_ : Int) = 1 + sA L arr by omega)
   have JE : j = sA L arr := by omega
   clear AT JK
   subst JE
   have AT := AT'
   clear AT'
   by_cases cl : at_ < (L : Int)
   ·have c1 : decide (at_ < (L : Int)) = true := decide_eq_true cl
    have c2 : decide (at_ ≤ arr) = false := decide_eq_false (by omega)
    clear LB atv jkv sav cl
    go_wp2

    have AT0 : Aside0 ((at_ : Int) = 1 + sA L arr) := AT
    clear AT
    go_loopg [4] (sP L arr) (fun kq v4 w' => ∃ (j : Nat) (ar : Int), v4 = .int .i64 ar ∧ Aside0 (ar = 1 + sA L arr + 2 * j) ∧ Aside0 (j + kq = sP L arr) ∧ Aside0 (w'.heap[W.heap.size]? = some (.cells #[.int .i64 kind, .int .i64 weak, .int .i64 arr, .slice A L c, .int .i64 fin] 43 (0, 0))) ∧ Aside0 (Inv w' ((sl1 (sA L arr) ++ sl2 (sA L arr) j).foldl step s0)))
    case atStart => exact ⟨0, _, rfl, ⟨by have := AT0.out; omega⟩, ⟨by omega⟩, ⟨BK.out⟩, ⟨by have h := HI.out; rw [show sl2 (sA L arr) 0 = [] from rfl, List.append_nil]; exact h⟩⟩
    case round =>
     obtain ⟨j, ar, hv, AR, JK, BK2, HI2⟩ := hrel
     subst hv
     clear BK HI z0 z1 z2 z3 z4
     have BK := BK2
     have HI := HI2
     clear BK2 HI2
     have z0 : wr.cell? ⟨W.heap.size, 0, none⟩ = some (.int .i64 kind) := blk_cell BK.out 0
     have z1 : wr.cell? ⟨W.heap.size, 1, none⟩ = some (.int .i64 weak) := blk_cell BK.out 1
     have z2 : wr.cell? ⟨W.heap.size, 2, none⟩ = some (.int .i64 arr) := blk_cell BK.out 2
     have z3 : wr.cell? ⟨W.heap.size, 3, none⟩ = some (.slice A L c) := blk_cell BK.out 3
     have z4 : wr.cell? ⟨W.heap.size, 4, none⟩ = some (.int .i64 fin) := blk_cell BK.out 4
     have LB := HLB.out
     have arv := AR.out
     have jkv := JK.out
     have spv : sP L arr = (L - (1 + sA L arr)) / 2 := rfl
     have sav : sA L arr = min (L - 1) arr.toNat := rfl
     rcases gk with _ | gk
     ·-- no pair is left
      have ew : IntKind.i64.wrap (ar + 1) = ar + 1 := (i64_w _).trans (w64i_ (by omega) (by omega))
      have c1 : decide (ar + 1 < (L : Int)) = false := decide_eq_false (by omega)
      have AE := Aside0.mk (show ar = 1 + sA L arr + 2 * sP L arr by rw [arv]; have : j = sP L arr := (by omega); rw [this])
      have JE := Aside0.mk (show j = sP L arr by omega)
      have nw : 0 ≤ ar := by omega
      clear LB arv jkv spv sav nw
      by_cases cl : ar < (L : Int)
      ·have c2 : decide (ar < (L : Int)) = true := decide_eq_true cl
       have CL := Aside0.mk cl
       clear cl
       have PL := Aside0.mk (show (sl1 (sA L arr) ++ sl2 (sA L arr) j).length < L by rw [List.length_append, sl1_len, sl2_len]; have := AE.out; have := CL.out; have := JE.out; omega)
       go_wp2_with (first | (go_at_call 47; (with_reducible refine (HST.out _ _ _ _ _ PL.out HI.out (by first | exact Below.refl _ _ | exact below_drew (Below.refl _ _) | exact pw_below_drewN (Below.refl _ _) _ | exact below_alloc (Below.refl _ _) _) (by decide) (by have := CL.out; have := AE.out; omega) CL.out (by have := CL.out; have := AE.out; omega)).mono ?_); rintro e w2 ⟨rfl, h2, h3⟩; have n1 := Aside0.mk (h3 _ _ BK.out); have n2 := Aside0.mk h2; clear h2 h3 z0 z1 z2 z3 z4 BK HI; have BK := n1; have HI := n2; clear n1 n2))
       go_end0
       refine ⟨rfl, ?_⟩
       have h := HI.out
       have hx : sl3 L arr = [((-1 : Int), ar)] := by
        unfold sl3
        rw [if_pos (by have := AE.out; have := CL.out; omega), ← AE.out]
       rw [slotsL, List.foldl_append, hx]
       rw [JE.out] at h
       exact h
      ·have c2 : decide (ar < (L : Int)) = false := decide_eq_false cl
       have CL := Aside0.mk cl
       clear cl
       go_wp2
       repeat (go_quiet (fail); try go_wp2)
       go_end0
       refine ⟨rfl, ?_⟩
       have h := HI.out
       have hx : sl3 L arr = [] := by
        unfold sl3
        exact if_neg (by have := AE.out; have := CL.out; omega)
       rw [slotsL, List.foldl_append, hx]
       rw [JE.out] at h
       first | exact h | exact HB.out _ _ _ h (by first | exact Below.refl _ _ | exact below_drew (Below.refl _ _) | exact pw_below_drewN (Below.refl _ _) _ | exact below_alloc (Below.refl _ _) _)
     ·obtain ⟨ar1, h1⟩ : ∃ x : Int, ar + 1 = x := ⟨_, rfl⟩
      obtain ⟨ar2, h2⟩ : ∃ x : Int, ar + 2 = x := ⟨_, rfl⟩
      have ew : IntKind.i64.wrap (ar + 1) = ar1 := ((i64_w _).trans (w64i_ (by omega) (by omega))).trans h1
      have ew2 : IntKind.i64.wrap (ar + 2) = ar2 := ((i64_w _).trans (w64i_ (by omega) (by omega))).trans h2
      have c1 : decide (ar1 < (L : Int)) = true := decide_eq_true (by omega)
      have P1 := Aside0.mk (show 0 ≤ ar1 by omega)
      have P2 := Aside0.mk (show ar1 < (L : Int) by omega)
      have P3 := Aside0.mk (show -1 ≤ ar by omega)
      have P4 := Aside0.mk (show ar < (L : Int) by omega)
      have H1 := Aside0.mk h1
      have H2 := Aside0.mk h2
      have PL := Aside0.mk (show (sl1 (sA L arr) ++ sl2 (sA L arr) j).length < L by rw [List.length_append, sl1_len, sl2_len]; omega)
      clear LB arv jkv spv sav h1 h2
      go_wp2_with (first | (go_at_call 47; (with_reducible refine (HST.out _ _ _ _ _ PL.out HI.out (by first | exact Below.refl _ _ | exact below_drew (Below.refl _ _) | exact pw_below_drewN (Below.refl _ _) _ | exact below_alloc (Below.refl _ _) _) P3.out P4.out P2.out P1.out).mono ?_); rintro e w2 ⟨rfl, h2, h3⟩; have n1 := Aside0.mk (h3 _ _ BK.out); have n2 := Aside0.mk h2; clear h2 h3 z0 z1 z2 z3 z4 BK HI; have BK := n1; have HI := n2; clear n1 n2))
      go_roundg gk
      case measure => omega
      case rel =>
       refine ⟨j + 1, _, rfl, ⟨by have := AR.out; have := H2.out; omega⟩, ⟨by have := JK.out; omega⟩, BK, ⟨?_⟩⟩
       have h := HI.out
       rw [sl2_succ, ← List.append_assoc, List.foldl_append]
       have e1 : ar = 1 + sA L arr + 2 * j := AR.out
       have e2 : ar1 = 1 + sA L arr + 2 * j + 1 := by have := H1.out; omega
       subst e2
       subst e1
       exact h

   ·have c1 : decide (at_ < (L : Int)) = false := decide_eq_false cl
    clear LB atv jkv sav cl
    go_wp2

    have AT0 : Aside0 ((at_ : Int) = 1 + sA L arr) := AT
    clear AT
    go_loopg [4] (sP L arr) (fun kq v4 w' => ∃ (j : Nat) (ar : Int), v4 = .int .i64 ar ∧ Aside0 (ar = 1 + sA L arr + 2 * j) ∧ Aside0 (j + kq = sP L arr) ∧ Aside0 (w'.heap[W.heap.size]? = some (.cells #[.int .i64 kind, .int .i64 weak, .int .i64 arr, .slice A L c, .int .i64 fin] 43 (0, 0))) ∧ Aside0 (Inv w' ((sl1 (sA L arr) ++ sl2 (sA L arr) j).foldl step s0)))
    case atStart => exact ⟨0, _, rfl, ⟨by have := AT0.out; omega⟩, ⟨by omega⟩, ⟨BK.out⟩, ⟨by have h := HI.out; rw [show sl2 (sA L arr) 0 = [] from rfl, List.append_nil]; exact h⟩⟩
    case round =>
     obtain ⟨j, ar, hv, AR, JK, BK2, HI2⟩ := hrel
     subst hv
     clear BK HI z0 z1 z2 z3 z4
     have BK := BK2
     have HI := HI2
     clear BK2 HI2
     have z0 : wr.cell? ⟨W.heap.size, 0, none⟩ = some (.int .i64 kind) := blk_cell BK.out 0
     have z1 : wr.cell? ⟨W.heap.size, 1, none⟩ = some (.int .i64 weak) := blk_cell BK.out 1
     have z2 : wr.cell? ⟨W.heap.size, 2, none⟩ = some (.int .i64 arr) := blk_cell BK.out 2
     have z3 : wr.cell? ⟨W.heap.size, 3, none⟩ = some (.slice A L c) := blk_cell BK.out 3
     have z4 : wr.cell? ⟨W.heap.size, 4, none⟩ = some (.int .i64 fin) := blk_cell BK.out 4
     have LB := HLB.out
     have arv := AR.out
     have jkv := JK.out
     have spv : sP L arr = (L - (1 + sA L arr)) / 2 := rfl
     have sav : sA L arr = min (L - 1) arr.toNat := rfl
     rcases gk with _ | gk
     ·-- no pair is left
      have ew : IntKind.i64.wrap (ar + 1) = ar + 1 := (i64_w _).trans (w64i_ (by omega) (by omega))
      have c1 : decide (ar + 1 < (L : Int)) = false := decide_eq_false (by omega)
      have AE := Aside0.mk (show ar = 1 + sA L arr + 2 * sP L arr by rw [arv]; have : j = sP L arr := (by omega); rw [this])
      have JE := Aside0.mk (show j = sP L arr by omega)
      have nw : 0 ≤ ar := by omega
      clear LB arv jkv spv sav nw
      by_cases cl : ar < (L : Int)
      ·have c2 : decide (ar < (L : Int)) = true := decide_eq_true cl
       have CL := Aside0.mk cl
       clear cl
       have PL := Aside0.mk (show (sl1 (sA L arr) ++ sl2 (sA L arr) j).length < L by rw [List.length_append, sl1_len, sl2_len]; have := AE.out; have := CL.out; have := JE.out; omega)
       go_wp2_with (first | (go_at_call 47; (with_reducible refine (HST.out _ _ _ _ _ PL.out HI.out (by first | exact Below.refl _ _ | exact below_drew (Below.refl _ _) | exact pw_below_drewN (Below.refl _ _) _ | exact below_alloc (Below.refl _ _) _) (by decide) (by have := CL.out; have := AE.out; omega) CL.out (by have := CL.out; have := AE.out; omega)).mono ?_); rintro e w2 ⟨rfl, h2, h3⟩; have n1 := Aside0.mk (h3 _ _ BK.out); have n2 := Aside0.mk h2; clear h2 h3 z0 z1 z2 z3 z4 BK HI; have BK := n1; have HI := n2; clear n1 n2))
       go_end0
       refine ⟨rfl, ?_⟩
       have h := HI.out
       have hx : sl3 L arr = [((-1 : Int), ar)] := by
        unfold sl3
        rw [if_pos (by have := AE.out; have := CL.out; omega), ← AE.out]
       rw [slotsL, List.foldl_append, hx]
       rw [JE.out] at h
       exact h
      ·have c2 : decide (ar < (L : Int)) = false := decide_eq_false cl
       have CL := Aside0.mk cl
       clear cl
       go_wp2
       repeat (go_quiet (fail); try go_wp2)
       go_end0
       refine ⟨rfl, ?_⟩
       have h := HI.out
       have hx : sl3 L arr = [] := by
        unfold sl3
        exact if_neg (by have := AE.out; have := CL.out; omega)
       rw [slotsL, List.foldl_append, hx]
       rw [JE.out] at h
       first | exact h | exact HB.out _ _ _ h (by first | exact Below.refl _ _ | exact below_drew (Below.refl _ _) | exact pw_below_drewN (Below.refl _ _) _ | exact below_alloc (Below.refl _ _) _)
     ·obtain ⟨ar1, h1⟩ : ∃ x : Int, ar + 1 = x := ⟨_, rfl⟩
      obtain ⟨ar2, h2⟩ : ∃ x : Int, ar + 2 = x := ⟨_, rfl⟩
      have ew : IntKind.i64.wrap (ar + 1) = ar1 := ((i64_w _).trans (w64i_ (by omega) (by omega))).trans h1
      have ew2 : IntKind.i64.wrap (ar + 2) = ar2 := ((i64_w _).trans (w64i_ (by omega) (by omega))).trans h2
      have c1 : decide (ar1 < (L : Int)) = true := decide_eq_true (by omega)
      have P1 := Aside0.mk (show 0 ≤ ar1 by omega)
      have P2 := Aside0.mk (show ar1 < (L : Int) by omega)
      have P3 := Aside0.mk (show -1 ≤ ar by omega)
      have P4 := Aside0.mk (show ar < (L : Int) by omega)
      have H1 := Aside0.mk h1
      have H2 := Aside0.mk h2
      have PL := Aside0.mk (show (sl1 (sA L arr) ++ sl2 (sA L arr) j).length < L by rw [List.length_append, sl1_len, sl2_len]; omega)
      clear LB arv jkv spv sav h1 h2
      go_wp2_with (first | (go_at_call 47; (with_reducible refine (HST.out _ _ _ _ _ PL.out HI.out (by first | exact Below.refl _ _ | exact below_drew (Below.refl _ _) | exact pw_below_drewN (Below.refl _ _) _ | exact below_alloc (Below.refl _ _) _) P3.out P4.out P2.out P1.out).mono ?_); rintro e w2 ⟨rfl, h2, h3⟩; have n1 := Aside0.mk (h3 _ _ BK.out); have n2 := Aside0.mk h2; clear h2 h3 z0 z1 z2 z3 z4 BK HI; have BK := n1; have HI := n2; clear n1 n2))
      go_roundg gk
      case measure => omega
      case rel =>
       refine ⟨j + 1, _, rfl, ⟨by have := AR.out; have := H2.out; omega⟩, ⟨by have := JK.out; omega⟩, BK, ⟨?_⟩⟩
       have h := HI.out
       rw [sl2_succ, ← List.append_assoc, List.foldl_append]
       have e1 : ar = 1 + sA L arr + 2 * j := AR.out
       have e2 : ar1 = 1 + sA L arr + 2 * j + 1 := by have := H1.out; omega
       subst e2
       subst e1
       exact h

  ·obtain ⟨at2, h2⟩ : ∃ x : Int, at_ + 1 = x := ⟨_, rfl⟩
   have ew : IntKind.i64.wrap (at_ + 1) = at2 := ((i64_w _).trans (w64i_ (by omega) (by omega))).trans h2
   have c1 : decide (at_ < (L : Int)) = true := decide_eq_true (by omega)
   have c2 : decide (at_ ≤ arr) = true := decide_eq_true (by omega)
   have P1 := Aside0.mk (show 0 ≤ at_ by omega)
   have P2 := Aside0.mk (show at_ < (L : Int) by omega)
   have P3 := Aside0.mk (show (-1 : Int) < (L : Int) by omega)
   have H2 := Aside0.mk h2
   have PL := Aside0.mk (show (sl1 j).length < L by rw [sl1_len]; omega)
   clear LB atv jkv sav h2
   go_wp2_with (first | (go_at_call 47; (with_reducible refine (HST.out _ _ _ _ _ PL.out HI.out (by first | exact Below.refl _ _ | exact below_drew (Below.refl _ _) | exact pw_below_drewN (Below.refl _ _) _ | exact below_alloc (Below.refl _ _) _) (by decide) P3.out P2.out P1.out).mono ?_); rintro e w2 ⟨rfl, h2, h3⟩; have n1 := Aside0.mk (h3 _ _ BK.out); have n2 := Aside0.mk h2; clear h2 h3 z0 z1 z2 z3 z4 BK HI; have BK := n1; have HI := n2; clear n1 n2))
   go_roundg gk
   case measure => omega
   case rel =>
    refine ⟨j + 1, _, rfl, ⟨by have := AT.out; have := H2.out; omega⟩, ⟨by have := JK.out; omega⟩, BK, ⟨?_⟩⟩
    have h := HI.out
    rw [sl1_succ, List.foldl_append]
    have e1 : at_ = 1 + j := AT.out
    subst e1
    exact h

set_option maxHeartbeats 8000000 in
set_option maxRecDepth 100000 in
theorem slots_calls39 {σ : Type} (Inv : World → σ → Prop) (step : σ → Int × Int → σ) (W : World) (s0 : σ) (kind weak arr fin : Int) (A : Option Addr) (L c : Nat) (hL : L ≤ 1000000) (v0 v1 v2 v3 v4 v5 : Value)
  (hst : ∀ (pre : List (Int × Int)) w wx key value, pre.length < L → Inv w (pre.foldl step s0) → Below w.heap.size w wx → -1 ≤ key → key < (L : Int) → value < (L : Int) → 0 ≤ value → Calls Try.prog 39 #[.int .i64 key, .int .i64 value, v0, v1, v2, v3, v4, v5] wx fun e w' => e = .returned (.tuple #[]) ∧ Inv w' (step (pre.foldl step s0) (key, value)) ∧ ∀ (k : Nat) (cs : Array Value), w.heap[k]? = some (.cells cs 43 (0, 0)) → w'.heap[k]? = some (.cells cs 43 (0, 0)))
  (hbe : ∀ s w wx, Inv w s → Below w.heap.size w wx → Inv wx s) (h0 : Inv W s0) :
  Calls Try.prog 38 #[.agg #[.int .i64 kind, .int .i64 weak, .int .i64 arr, .slice A L c, .int .i64 fin], .func (.func 39) #[] #[v0, v1, v2, v3, v4, v5]] W fun e W' => e = .returned (.tuple #[]) ∧ Inv W' ((slotsL L arr).foldl step s0) := by
 have HST := Aside0.mk hst
 have HB := Aside0.mk hbe
 have HI0 := Aside0.mk (hbe _ _ _ h0 (below_alloc (Below.refl _ _) (.cells #[.int .i64 kind, .int .i64 weak, .int .i64 arr, .slice A L c, .int .i64 fin] 43 (0, 0))))
 have BK0 := Aside0.mk (alloc_at W (.cells #[.int .i64 kind, .int .i64 weak, .int .i64 arr, .slice A L c, .int .i64 fin] 43 (0, 0)))
 have HLB := Aside0.mk hL
 clear hst hbe h0 hL
 go_enter Try.func38, Try.ntmps38
 go_wp2
 go_loopg [4] (sA L arr) (fun kq v4 w' => ∃ (j : Nat) (at_ : Int), v4 = .int .i64 at_ ∧ Aside0 (at_ = 1 + j) ∧ Aside0 (j + kq = sA L arr) ∧ Aside0 (w'.heap[W.heap.size]? = some (.cells #[.int .i64 kind, .int .i64 weak, .int .i64 arr, .slice A L c, .int .i64 fin] 43 (0, 0))) ∧ Aside0 (Inv w' ((sl1 j).foldl step s0)))
 case atStart => exact ⟨0, 1, rfl, ⟨rfl⟩, ⟨by omega⟩, ⟨BK0.out⟩, ⟨HI0.out⟩⟩
 case round =>
  obtain ⟨j, at_, hv, AT, JK, BK, HI⟩ := hrel
  subst hv
  clear BK0 HI0
  have z0 : wr.cell? ⟨W.heap.size, 0, none⟩ = some (.int .i64 kind) := blk_cell BK.out 0
  have z1 : wr.cell? ⟨W.heap.size, 1, none⟩ = some (.int .i64 weak) := blk_cell BK.out 1
  have z2 : wr.cell? ⟨W.heap.size, 2, none⟩ = some (.int .i64 arr) := blk_cell BK.out 2
  have z3 : wr.cell? ⟨W.heap.size, 3, none⟩ = some (.slice A L c) := blk_cell BK.out 3
  have z4 : wr.cell? ⟨W.heap.size, 4, none⟩ = some (.int .i64 fin) := blk_cell BK.out 4
  have LB := HLB.out
  have atv := AT.out
  have jkv := JK.out
  have sav : sA L arr = min (L - 1) arr.toNat := rfl
  rcases gk with _ | gk
  ·have AT' := Aside0.mk (show (at_ : Int) = 1 + sA L arr by omega)
   have JE : j = sA L arr := by omega
   clear AT JK
   subst JE
   have AT := AT'
   clear AT'
   by_cases cl : at_ < (L : Int)
   ·have c1 : decide (at_ < (L : Int)) = true := decide_eq_true cl
    have c2 : decide (at_ ≤ arr) = false := decide_eq_false (by omega)
    clear LB atv jkv sav cl
    go_wp2

    have AT0 : Aside0 ((at_ : Int) = 1 + sA L arr) := AT
    clear AT
    go_loopg [4] (sP L arr) (fun kq v4 w' => ∃ (j : Nat) (ar : Int), v4 = .int .i64 ar ∧ Aside0 (ar = 1 + sA L arr + 2 * j) ∧ Aside0 (j + kq = sP L arr) ∧ Aside0 (w'.heap[W.heap.size]? = some (.cells #[.int .i64 kind, .int .i64 weak, .int .i64 arr, .slice A L c, .int .i64 fin] 43 (0, 0))) ∧ Aside0 (Inv w' ((sl1 (sA L arr) ++ sl2 (sA L arr) j).foldl step s0)))
    case atStart => exact ⟨0, _, rfl, ⟨by have := AT0.out; omega⟩, ⟨by omega⟩, ⟨BK.out⟩, ⟨by have h := HI.out; rw [show sl2 (sA L arr) 0 = [] from rfl, List.append_nil]; exact h⟩⟩
    case round =>
     obtain ⟨j, ar, hv, AR, JK, BK2, HI2⟩ := hrel
     subst hv
     clear BK HI z0 z1 z2 z3 z4
     have BK := BK2
     have HI := HI2
     clear BK2 HI2
     have z0 : wr.cell? ⟨W.heap.size, 0, none⟩ = some (.int .i64 kind) := blk_cell BK.out 0
     have z1 : wr.cell? ⟨W.heap.size, 1, none⟩ = some (.int .i64 weak) := blk_cell BK.out 1
     have z2 : wr.cell? ⟨W.heap.size, 2, none⟩ = some (.int .i64 arr) := blk_cell BK.out 2
     have z3 : wr.cell? ⟨W.heap.size, 3, none⟩ = some (.slice A L c) := blk_cell BK.out 3
     have z4 : wr.cell? ⟨W.heap.size, 4, none⟩ = some (.int .i64 fin) := blk_cell BK.out 4
     have LB := HLB.out
     have arv := AR.out
     have jkv := JK.out
     have spv : sP L arr = (L - (1 + sA L arr)) / 2 := rfl
     have sav : sA L arr = min (L - 1) arr.toNat := rfl
     rcases gk with _ | gk
     ·-- no pair is left
      have ew : IntKind.i64.wrap (ar + 1) = ar + 1 := (i64_w _).trans (w64i_ (by omega) (by omega))
      have c1 : decide (ar + 1 < (L : Int)) = false := decide_eq_false (by omega)
      have AE := Aside0.mk (show ar = 1 + sA L arr + 2 * sP L arr by rw [arv]; have : j = sP L arr := (by omega); rw [this])
      have JE := Aside0.mk (show j = sP L arr by omega)
      have nw : 0 ≤ ar := by omega
      clear LB arv jkv spv sav nw
      by_cases cl : ar < (L : Int)
      ·have c2 : decide (ar < (L : Int)) = true := decide_eq_true cl
       have CL := Aside0.mk cl
       clear cl
       have PL := Aside0.mk (show (sl1 (sA L arr) ++ sl2 (sA L arr) j).length < L by rw [List.length_append, sl1_len, sl2_len]; have := AE.out; have := CL.out; have := JE.out; omega)
       go_wp2_with (first | (go_at_call 39; (with_reducible refine (HST.out _ _ _ _ _ PL.out HI.out (by first | exact Below.refl _ _ | exact below_drew (Below.refl _ _) | exact pw_below_drewN (Below.refl _ _) _ | exact below_alloc (Below.refl _ _) _) (by decide) (by have := CL.out; have := AE.out; omega) CL.out (by have := CL.out; have := AE.out; omega)).mono ?_); rintro e w2 ⟨rfl, h2, h3⟩; have n1 := Aside0.mk (h3 _ _ BK.out); have n2 := Aside0.mk h2; clear h2 h3 z0 z1 z2 z3 z4 BK HI; have BK := n1; have HI := n2; clear n1 n2))
       go_end0
       refine ⟨rfl, ?_⟩
       have h := HI.out
       have hx : sl3 L arr = [((-1 : Int), ar)] := by
        unfold sl3
        rw [if_pos (by have := AE.out; have := CL.out; omega), ← AE.out]
       rw [slotsL, List.foldl_append, hx]
       rw [JE.out] at h
       exact h
      ·have c2 : decide (ar < (L : Int)) = false := decide_eq_false cl
       have CL := Aside0.mk cl
       clear cl
       go_wp2
       repeat (go_quiet (fail); try go_wp2)
       go_end0
       refine ⟨rfl, ?_⟩
       have h := HI.out
       have hx : sl3 L arr = [] := by
        unfold sl3
        exact if_neg (by have := AE.out; have := CL.out; omega)
       rw [slotsL, List.foldl_append, hx]
       rw [JE.out] at h
       first | exact h | exact HB.out _ _ _ h (by first | exact Below.refl _ _ | exact below_drew (Below.refl _ _) | exact pw_below_drewN (Below.refl _ _) _ | exact below_alloc (Below.refl _ _) _)
     ·obtain ⟨ar1, h1⟩ : ∃ x : Int, ar + 1 = x := ⟨_, rfl⟩
      obtain ⟨ar2, h2⟩ : ∃ x : Int, ar + 2 = x := ⟨_, rfl⟩
      have ew : IntKind.i64.wrap (ar + 1) = ar1 := ((i64_w _).trans (w64i_ (by omega) (by omega))).trans h1
      have ew2 : IntKind.i64.wrap (ar + 2) = ar2 := ((i64_w _).trans (w64i_ (by omega) (by omega))).trans h2
      have c1 : decide (ar1 < (L : Int)) = true := decide_eq_true (by omega)
      have P1 := Aside0.mk (show 0 ≤ ar1 by omega)
      have P2 := Aside0.mk (show ar1 < (L : Int) by omega)
      have P3 := Aside0.mk (show -1 ≤ ar by omega)
      have P4 := Aside0.mk (show ar < (L : Int) by omega)
      have H1 := Aside0.mk h1
      have H2 := Aside0.mk h2
      have PL := Aside0.mk (show (sl1 (sA L arr) ++ sl2 (sA L arr) j).length < L by rw [List.length_append, sl1_len, sl2_len]; omega)
      clear LB arv jkv spv sav h1 h2
      go_wp2_with (first | (go_at_call 39; (with_reducible refine (HST.out _ _ _ _ _ PL.out HI.out (by first | exact Below.refl _ _ | exact below_drew (Below.refl _ _) | exact pw_below_drewN (Below.refl _ _) _ | exact below_alloc (Below.refl _ _) _) P3.out P4.out P2.out P1.out).mono ?_); rintro e w2 ⟨rfl, h2, h3⟩; have n1 := Aside0.mk (h3 _ _ BK.out); have n2 := Aside0.mk h2; clear h2 h3 z0 z1 z2 z3 z4 BK HI; have BK := n1; have HI := n2; clear n1 n2))
      go_roundg gk
      case measure => omega
      case rel =>
       refine ⟨j + 1, _, rfl, ⟨by have := AR.out; have := H2.out; omega⟩, ⟨by have := JK.out; omega⟩, BK, ⟨?_⟩⟩
       have h := HI.out
       rw [sl2_succ, ← List.append_assoc, List.foldl_append]
       have e1 : ar = 1 + sA L arr + 2 * j := AR.out
       have e2 : ar1 = 1 + sA L arr + 2 * j + 1 := by have := H1.out; omega
       subst e2
       subst e1
       exact h

   ·have c1 : decide (at_ < (L : Int)) = false := decide_eq_false cl
    clear LB atv jkv sav cl
    go_wp2

    have AT0 : Aside0 ((at_ : Int) = 1 + sA L arr) := AT
    clear AT
    go_loopg [4] (sP L arr) (fun kq v4 w' => ∃ (j : Nat) (ar : Int), v4 = .int .i64 ar ∧ Aside0 (ar = 1 + sA L arr + 2 * j) ∧ Aside0 (j + kq = sP L arr) ∧ Aside0 (w'.heap[W.heap.size]? = some (.cells #[.int .i64 kind, .int .i64 weak, .int .i64 arr, .slice A L c, .int .i64 fin] 43 (0, 0))) ∧ Aside0 (Inv w' ((sl1 (sA L arr) ++ sl2 (sA L arr) j).foldl step s0)))
    case atStart => exact ⟨0, _, rfl, ⟨by have := AT0.out; omega⟩, ⟨by omega⟩, ⟨BK.out⟩, ⟨by have h := HI.out; rw [show sl2 (sA L arr) 0 = [] from rfl, List.append_nil]; exact h⟩⟩
    case round =>
     obtain ⟨j, ar, hv, AR, JK, BK2, HI2⟩ := hrel
     subst hv
     clear BK HI z0 z1 z2 z3 z4
     have BK := BK2
     have HI := HI2
     clear BK2 HI2
     have z0 : wr.cell? ⟨W.heap.size, 0, none⟩ = some (.int .i64 kind) := blk_cell BK.out 0
     have z1 : wr.cell? ⟨W.heap.size, 1, none⟩ = some (.int .i64 weak) := blk_cell BK.out 1
     have z2 : wr.cell? ⟨W.heap.size, 2, none⟩ = some (.int .i64 arr) := blk_cell BK.out 2
     have z3 : wr.cell? ⟨W.heap.size, 3, none⟩ = some (.slice A L c) := blk_cell BK.out 3
     have z4 : wr.cell? ⟨W.heap.size, 4, none⟩ = some (.int .i64 fin) := blk_cell BK.out 4
     have LB := HLB.out
     have arv := AR.out
     have jkv := JK.out
     have spv : sP L arr = (L - (1 + sA L arr)) / 2 := rfl
     have sav : sA L arr = min (L - 1) arr.toNat := rfl
     rcases gk with _ | gk
     ·-- no pair is left
      have ew : IntKind.i64.wrap (ar + 1) = ar + 1 := (i64_w _).trans (w64i_ (by omega) (by omega))
      have c1 : decide (ar + 1 < (L : Int)) = false := decide_eq_false (by omega)
      have AE := Aside0.mk (show ar = 1 + sA L arr + 2 * sP L arr by rw [arv]; have : j = sP L arr := (by omega); rw [this])
      have JE := Aside0.mk (show j = sP L arr by omega)
      have nw : 0 ≤ ar := by omega
      clear LB arv jkv spv sav nw
      by_cases cl : ar < (L : Int)
      ·have c2 : decide (ar < (L : Int)) = true := decide_eq_true cl
       have CL := Aside0.mk cl
       clear cl
       have PL := Aside0.mk (show (sl1 (sA L arr) ++ sl2 (sA L arr) j).length < L by rw [List.length_append, sl1_len, sl2_len]; have := AE.out; have := CL.out; have := JE.out; omega)
       go_wp2_with (first | (go_at_call 39; (with_reducible refine (HST.out _ _ _ _ _ PL.out HI.out (by first | exact Below.refl _ _ | exact below_drew (Below.refl _ _) | exact pw_below_drewN (Below.refl _ _) _ | exact below_alloc (Below.refl _ _) _) (by decide) (by have := CL.out; have := AE.out; omega) CL.out (by have := CL.out; have := AE.out; omega)).mono ?_); rintro e w2 ⟨rfl, h2, h3⟩; have n1 := Aside0.mk (h3 _ _ BK.out); have n2 := Aside0.mk h2; clear h2 h3 z0 z1 z2 z3 z4 BK HI; have BK := n1; have HI := n2; clear n1 n2))
       go_end0
       refine ⟨rfl, ?_⟩
       have h := HI.out
       have hx : sl3 L arr = [((-1 : Int), ar)] := by
        unfold sl3
        rw [if_pos (by have := AE.out; have := CL.out; omega), ← AE.out]
       rw [slotsL, List.foldl_append, hx]
       rw [JE.out] at h
       exact h
      ·have c2 : decide (ar < (L : Int)) = false := decide_eq_false cl
       have CL := Aside0.mk cl
       clear cl
       go_wp2
       repeat (go_quiet (fail); try go_wp2)
       go_end0
       refine ⟨rfl, ?_⟩
       have h := HI.out
       have hx : sl3 L arr = [] := by
        unfold sl3
        exact if_neg (by have := AE.out; have := CL.out; omega)
       rw [slotsL, List.foldl_append, hx]
       rw [JE.out] at h
       first | exact h | exact HB.out _ _ _ h (by first | exact Below.refl _ _ | exact below_drew (Below.refl _ _) | exact pw_below_drewN (Below.refl _ _) _ | exact below_alloc (Below.refl _ _) _)
     ·obtain ⟨ar1, h1⟩ : ∃ x : Int, ar + 1 = x := ⟨_, rfl⟩
      obtain ⟨ar2, h2⟩ : ∃ x : Int, ar + 2 = x := ⟨_, rfl⟩
      have ew : IntKind.i64.wrap (ar + 1) = ar1 := ((i64_w _).trans (w64i_ (by omega) (by omega))).trans h1
      have ew2 : IntKind.i64.wrap (ar + 2) = ar2 := ((i64_w _).trans (w64i_ (by omega) (by omega))).trans h2
      have c1 : decide (ar1 < (L : Int)) = true := decide_eq_true (by omega)
      have P1 := Aside0.mk (show 0 ≤ ar1 by omega)
      have P2 := Aside0.mk (show ar1 < (L : Int) by omega)
      have P3 := Aside0.mk (show -1 ≤ ar by omega)
      have P4 := Aside0.mk (show ar < (L : Int) by omega)
      have H1 := Aside0.mk h1
      have H2 := Aside0.mk h2
      have PL := Aside0.mk (show (sl1 (sA L arr) ++ sl2 (sA L arr) j).length < L by rw [List.length_append, sl1_len, sl2_len]; omega)
      clear LB arv jkv spv sav h1 h2
      go_wp2_with (first | (go_at_call 39; (with_reducible refine (HST.out _ _ _ _ _ PL.out HI.out (by first | exact Below.refl _ _ | exact below_drew (Below.refl _ _) | exact pw_below_drewN (Below.refl _ _) _ | exact below_alloc (Below.refl _ _) _) P3.out P4.out P2.out P1.out).mono ?_); rintro e w2 ⟨rfl, h2, h3⟩; have n1 := Aside0.mk (h3 _ _ BK.out); have n2 := Aside0.mk h2; clear h2 h3 z0 z1 z2 z3 z4 BK HI; have BK := n1; have HI := n2; clear n1 n2))
      go_roundg gk
      case measure => omega
      case rel =>
       refine ⟨j + 1, _, rfl, ⟨by have := AR.out; have := H2.out; omega⟩, ⟨by have := JK.out; omega⟩, BK, ⟨?_⟩⟩
       have h := HI.out
       rw [sl2_succ, ← List.append_assoc, List.foldl_append]
       have e1 : ar = 1 + sA L arr + 2 * j := AR.out
       have e2 : ar1 = 1 + sA L arr + 2 * j + 1 := by have := H1.out; omega
       subst e2
       subst e1
       exact h

  ·obtain ⟨at2, h2⟩ : ∃ x : Int, at_ + 1 = x := ⟨_, rfl⟩
   have ew : IntKind.i64.wrap (at_ + 1) = at2 := ((i64_w _).trans (w64i_ (by omega) (by omega))).trans h2
   have c1 : decide (at_ < (L : Int)) = true := decide_eq_true (by omega)
   have c2 : decide (at_ ≤ arr) = true := decide_eq_true (by omega)
   have P1 := Aside0.mk (show 0 ≤ at_ by omega)
   have P2 := Aside0.mk (show at_ < (L : Int) by omega)
   have P3 := Aside0.mk (show (-1 : Int) < (L : Int) by omega)
   have H2 := Aside0.mk h2
   have PL := Aside0.mk (show (sl1 j).length < L by rw [sl1_len]; omega)
   clear LB atv jkv sav h2
   go_wp2_with (first | (go_at_call 39; (with_reducible refine (HST.out _ _ _ _ _ PL.out HI.out (by first | exact Below.refl _ _ | exact below_drew (Below.refl _ _) | exact pw_below_drewN (Below.refl _ _) _ | exact below_alloc (Below.refl _ _) _) (by decide) P3.out P2.out P1.out).mono ?_); rintro e w2 ⟨rfl, h2, h3⟩; have n1 := Aside0.mk (h3 _ _ BK.out); have n2 := Aside0.mk h2; clear h2 h3 z0 z1 z2 z3 z4 BK HI; have BK := n1; have HI := n2; clear n1 n2))
   go_roundg gk
   case measure => omega
   case rel =>
    refine ⟨j + 1, _, rfl, ⟨by have := AT.out; have := H2.out; omega⟩, ⟨by have := JK.out; omega⟩, BK, ⟨?_⟩⟩
    have h := HI.out
    rw [sl1_succ, List.foldl_append]
    have e1 : at_ = 1 + j := AT.out
    subst e1
    exact h
end Go.Proofs.Ytollnnbcfhnlfaa.Rg

/- reach: the state of a graph that is asked, in the midst of a walk that starts at W. -/
set_option linter.unusedVariables false
set_option linter.unusedSimpArgs false
namespace Go.Proofs.Ytollnnbcfhnlfaa.Rg
open Go.Proofs.Ytollnnbcfhnlfaa.Sh
open Go.RowKit Go.Proofs.Ytollnnbcfhnlfaa.QR Go.Proofs.YtollnnbcfhnlfaaW.PrintWords Go.Proofs.YtollnnbcfhnlfaaW.PrintLast Go.Proofs.YtollnnbcfhnlfaaW.PrintMore
structure GP where
 w0 : World
 W : World
 g : Nat
 A0 : Option Addr
 c0 : Nat
 th : List S43
 A1 : Option Addr
 c1 : Nat
 rt : List S40
 nv : Value
 tv : Value
abbrev KB := Nat × Array Value × TypeId
def GL (p : GP) (w : World) (kb : List KB) (s : List Bool × List Int) : Prop :=
 ∃ tvc, GS p.w0 w p.g p.A0 p.c0 p.th p.A1 p.c1 p.rt p.nv s.1 tvc s.2 ∧ (∀ r W2, NeedPost p.w0 w W2 p.g p.A0 p.c0 p.th p.A1 p.c1 p.rt p.nv tvc r → NeedPost p.w0 p.W W2 p.g p.A0 p.c0 p.th p.A1 p.c1 p.rt p.nv p.tv r) ∧ Fine p.th s ∧ (∀ b ∈ kb, w.heap[b.1]? = some (.cells b.2.1 b.2.2 (0, 0)) ∧ b.2.2 ≠ 58 ∧ b.2.2 ≠ 4 ∧ b.2.2 ≠ 3)
section
variable {p : GP} {w wx : World} {kb : List KB} {s : List Bool × List Int}
theorem GL.start (hS : GS p.w0 p.W p.g p.A0 p.c0 p.th p.A1 p.c1 p.rt p.nv s.1 p.tv s.2) (hF : Fine p.th s) : GL p p.W [] s :=
 ⟨p.tv, hS, fun _ _ h => h, hF, fun _ h => nomatch h⟩
theorem GL.below (h : GL p w kb s) (hb : Below w.heap.size w wx) : GL p wx kb s := by
 obtain ⟨tvc, a, b, c, d⟩ := h
 exact ⟨tvc, a.below hb, fun r W2 k => b r W2 (k.pre hb), c, fun q hq => ⟨blk_below (d q hq).1 hb, (d q hq).2⟩⟩
theorem GL.fine (h : GL p w kb s) : Fine p.th s := by obtain ⟨_, _, _, c, _⟩ := h; exact c
theorem GL.box (h : GL p w kb s) (cs : Array Value) (T : TypeId) (h1 : T ≠ 58 := by decide) (h2 : T ≠ 4 := by decide) (h3 : T ≠ 3 := by decide) : GL p (w.alloc (.cells cs T)) ((w.heap.size, cs, T) :: kb) s := by
 obtain ⟨tvc, x, y, z, d⟩ := h.below (below_alloc (Below.refl _ _) (.cells cs T))
 refine ⟨tvc, x, y, z, fun q hq => ?_⟩
 rcases List.mem_cons.1 hq with e | e
 ·subst e; exact ⟨alloc_at _ _, h1, h2, h3⟩
 ·exact d q e
theorem GL.drop {b : KB} (h : GL p w (b :: kb) s) : GL p w kb s := by
 obtain ⟨tvc, x, y, z, d⟩ := h
 exact ⟨tvc, x, y, z, fun q hq => d q (List.mem_cons_of_mem _ hq)⟩
theorem GL.blk (h : GL p w kb s) {b : Nat} {cs : Array Value} {T : TypeId} (hb : (b, cs, T) ∈ kb) : w.heap[b]? = some (.cells cs T (0, 0)) := by
 obtain ⟨tvc, _, _, _, d⟩ := h
 exact (d _ hb).1
theorem GL.done (h : GL p w kb s) : NeedPost p.w0 p.W w p.g p.A0 p.c0 p.th p.A1 p.c1 p.rt p.nv p.tv s := by
 obtain ⟨tvc, x, y, z, d⟩ := h
 exact y _ _ (NeedPost.refl x)
theorem GL.size (h : GL p w kb s) : p.W.heap.size ≤ w.heap.size := by obtain ⟨_, _, b, _⟩ := h.done; exact b.1
theorem GL.ofPost {tvc : Value} {s2 : List Bool × List Int} (a : GS p.w0 w p.g p.A0 p.c0 p.th p.A1 p.c1 p.rt p.nv s.1 tvc s.2) (b : ∀ r W2, NeedPost p.w0 w W2 p.g p.A0 p.c0 p.th p.A1 p.c1 p.rt p.nv tvc r → NeedPost p.w0 p.W W2 p.g p.A0 p.c0 p.th p.A1 p.c1 p.rt p.nv p.tv r)
  (d : ∀ b ∈ kb, w.heap[b.1]? = some (.cells b.2.1 b.2.2 (0, 0)) ∧ b.2.2 ≠ 58 ∧ b.2.2 ≠ 4 ∧ b.2.2 ≠ 3) (F : Fine p.th s2) (h : NeedPost p.w0 w wx p.g p.A0 p.c0 p.th p.A1 p.c1 p.rt p.nv tvc s2) : GL p wx kb s2 := by
 obtain ⟨tv1, x, y⟩ := h.open
 exact ⟨tv1, x, fun r W2 k => b r W2 (y r W2 k), F, fun q hq => ⟨h.keep a (d q hq).1 (d q hq).2.1 (d q hq).2.2.1 (d q hq).2.2.2, (d q hq).2⟩⟩
theorem GL.need (h : GL p w kb s) (hb : Below w.heap.size w wx) (hm : p.th.length ≤ 1000000) (t n : Int) : Calls Try.prog 28 #[.pointer (some ⟨p.g, 0, none⟩), .agg #[.int .i64 t, .int .i64 n]] wx fun e w' => e = .returned (.tuple #[]) ∧ GL p w' kb (needF p.th s.1 s.2 t n) := by
 obtain ⟨tvc, x, y, z, d⟩ := h.below hb
 exact (need_calls p.w0 wx p.g p.A0 p.c0 p.th p.A1 p.c1 p.rt p.nv s.1 tvc s.2 x z.len hm (z.le hm) t n).mono fun e w' ⟨e1, e2⟩ => ⟨e1, GL.ofPost x y d (z.need t n) e2⟩
theorem GL.force (h : GL p w kb s) (hb : Below w.heap.size w wx) (hm : p.th.length ≤ 1000000) (i : Int) (h0 : 1 ≤ i) (h1 : i ≤ p.th.length) : Calls Try.prog 29 #[.pointer (some ⟨p.g, 0, none⟩), .int .i64 i] wx fun e w' => e = .returned (.tuple #[]) ∧ GL p w' kb (forceF s.1 s.2 i) := by
 obtain ⟨tvc, x, y, z, d⟩ := h.below hb
 have := z.len
 exact (force_calls p.w0 wx p.g p.A0 p.c0 p.th p.A1 p.c1 p.rt p.nv s.1 tvc s.2 x (by omega) (z.le hm) i h0 (by omega)).mono fun e w' ⟨e1, e2⟩ => ⟨e1, GL.ofPost x y d (z.force i h0 h1) e2⟩
/-- the graph's own cells -/
theorem GL.graph (h : GL p w kb s) : ∃ tvc, w.heap[p.g]? = some (.cells #[.slice p.A0 p.th.length p.c0, .slice p.A1 p.rt.length p.c1, p.nv, tvc] 58 (0, 0)) := by
 obtain ⟨tvc, x, _⟩ := h
 exact ⟨tvc, x.blk⟩
theorem GL.thing (h : GL p w kb s) (i : Int) (h0 : 0 ≤ i) (h1 : i < p.th.length) : ∃ ad A3 c3, p.A0 = some ad ∧ w.cell? (ad.add (i.toNat * 5)) = some (.int .i64 (rd_T43 p.th i).f0) ∧ w.cell? ⟨(ad.add (i.toNat * 5)).block, (ad.add (i.toNat * 5)).off + 1, none⟩ = some (.int .i64 (rd_T43 p.th i).f1) ∧ w.cell? ⟨(ad.add (i.toNat * 5)).block, (ad.add (i.toNat * 5)).off + 2, none⟩ = some (.int .i64 (rd_T43 p.th i).f2) ∧ w.cell? ⟨(ad.add (i.toNat * 5)).block, (ad.add (i.toNat * 5)).off + 3, none⟩ = some (.slice A3 (rd_T43 p.th i).f3.length c3) ∧ w.cell? ⟨(ad.add (i.toNat * 5)).block, (ad.add (i.toNat * 5)).off + 4, none⟩ = some (.int .i64 (rd_T43 p.th i).f4) ∧ k40.C p.w0 A3 (rd_T43 p.th i).f3.length (rd_T43 p.th i).f3 := by
 obtain ⟨tvc, x, _⟩ := h
 obtain ⟨ad, A3, c3, e, a, b, c, d, f, l, k⟩ := at_T43 x.cth i h0 h1
 have tr : ∀ {q : Addr} {v : Value}, p.w0.cell? q = some v → w.cell? q = some v := fun hq => (x.b.cell (cell_lt hq)).trans hq
 exact ⟨ad, A3, c3, e, tr a, tr b, tr c, tr d, tr f, k⟩
theorem GL.base (h : GL p w kb s) : Below p.w0.heap.size p.w0 w := by obtain ⟨tvc, x, _⟩ := h; exact x.b
theorem GL.needed (h : GL p w kb s) (i : Int) (h0 : 0 ≤ i) (h1 : i < p.th.length) : ∃ gn cn, w.cell? ⟨p.g, 2, none⟩ = some (.slice (some ⟨gn, 0, none⟩) s.1.length cn) ∧ w.cell? ⟨gn, i.toNat, none⟩ = some (.bool (rdOf false s.1 i)) := by
 obtain ⟨tvc, x, y, z, d⟩ := h
 have hl := z.len
 obtain ⟨gn, cn, e, _⟩ := Kd.R_form x.n (by omega)
 have xb := blk_cell x.blk 2
 have xn := x.n
 rw [e] at xn
 have := Kd.R_celln false xn i h0 (by omega)
 refine ⟨gn, cn, ?_, this.1⟩
 exact (show w.cell? ⟨p.g, 2, none⟩ = some p.nv from xb).trans (by rw [e])
end
/-- what lead leaves -/
def leadF (th : List S43) (s : List Bool × List Int) (h : Int) : List Bool × List Int :=
 if weakF (rd_T43 th (h - 1)).f0 (rd_T43 th (h - 1)).f1 = 0 then (rd_T43 th (h - 1)).f3.foldl (fun s v => needF th s.1 s.2 v.f0 v.f1) s
 else (slotsL (rd_T43 th (h - 1)).f3.length (rd_T43 th (h - 1)).f2).foldl (fun s q => stepF th (rd_T43 th (h - 1)).f0 (rd_T43 th (h - 1)).f1 (rd_T43 th (h - 1)).f3 s q.1 q.2)
  (if (rd_T43 th (h - 1)).f3.length = 0 then s else needF th s.1 s.2 (rd_T40 (rd_T43 th (h - 1)).f3 0).f0 (rd_T40 (rd_T43 th (h - 1)).f3 0).f1)
theorem Fine.lead {th : List S43} {s : List Bool × List Int} (F : Fine th s) (h : Int) : Fine th (leadF th s h) := by
 unfold leadF
 split
 ·generalize (rd_T43 th (h - 1)).f3 = l
  revert s
  induction l with
  | nil => exact fun F => F
  | cons x l ih => exact fun F => ih (F.need _ _)
 ·generalize slotsL (rd_T43 th (h - 1)).f3.length (rd_T43 th (h - 1)).f2 = l
  have F1 : Fine th (if (rd_T43 th (h - 1)).f3.length = 0 then s else needF th s.1 s.2 (rd_T40 (rd_T43 th (h - 1)).f3 0).f0 (rd_T40 (rd_T43 th (h - 1)).f3 0).f1) := by
   split
   ·exact F
   ·exact F.need _ _
  revert F1
  generalize (if (rd_T43 th (h - 1)).f3.length = 0 then s else needF th s.1 s.2 (rd_T40 (rd_T43 th (h - 1)).f3 0).f0 (rd_T40 (rd_T43 th (h - 1)).f3 0).f1) = s1
  revert s1
  induction l with
  | nil => exact fun _ F => F
  | cons x l ih => exact fun s1 F => ih _ (F.step _ _ _ _ _)
/-- what the closure needs to be called -/
theorem GL.step2 {p : GP} {w wx : World} {kb : List KB} {s : List Bool × List Int} (h : GL p w kb s) (hb : Below w.heap.size w wx) (hm : p.th.length ≤ 1000000) {tb gb sb : Nat} {kind weak arr fin : Int} {A : Option Addr} {sl : List S40} {c : Nat}
  (k1 : (tb, #[.int .i64 kind, .int .i64 weak, .int .i64 arr, .slice A sl.length c, .int .i64 fin], 43) ∈ kb) (k2 : (gb, #[.pointer (some ⟨p.g, 0, none⟩)], 53) ∈ kb) (k3 : (sb, #[.func (.func 46) #[] #[.pointer (some ⟨gb, 0, none⟩)]], 55) ∈ kb)
  (hC : Kd.C k40 p.w0 A sl.length sl) (key value : Int) (hv0 : 0 ≤ value) (hv1 : value < sl.length) (hk1 : key < sl.length) :
  Calls Try.prog 47 #[.int .i64 key, .int .i64 value, .pointer (some ⟨tb, 0, none⟩), .pointer (some ⟨gb, 0, none⟩), .pointer (some ⟨sb, 0, none⟩)] wx fun e W' => e = .returned (.tuple #[]) ∧ GL p W' kb (stepF p.th kind weak sl s key value) ∧ ∀ (k : Nat) (cs : Array Value), w.heap[k]? = some (.cells cs 43 (0, 0)) → W'.heap[k]? = some (.cells cs 43 (0, 0)) := by
 obtain ⟨ad, rfl, _⟩ := at_T40 hC value hv0 hv1
 have h' := h.below hb
 have b1 := h'.blk k1
 have b2 := h'.blk k2
 have b3 := h'.blk k3
 obtain ⟨tvc, x, y, z, d⟩ := h'
 let q : LP := ⟨p.w0, wx, p.g, p.A0, p.c0, p.th, p.A1, p.c1, p.rt, p.nv, tvc, tb, gb, sb, kind, weak, arr, fin, ad, sl, c⟩
 refine (lead2_calls q s (LS.start x ⟨b1, b2, b3⟩) z hm hC key value hv0 hv1 hk1).mono fun e W' ⟨e1, bx, e2⟩ => ⟨e1, GL.ofPost x y d (z.step _ _ _ _ _) e2.done, fun k cs hk => e2.done.keep x (blk_below hk hb) (by decide) (by decide) (by decide)⟩
end Go.Proofs.Ytollnnbcfhnlfaa.Rg
