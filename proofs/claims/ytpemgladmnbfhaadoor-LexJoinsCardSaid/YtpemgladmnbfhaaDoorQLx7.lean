-- WRITTEN BY wip/tools/myprint.py, a program of this session, over the kit's printer
import Derived.Test.YtpemgladmnbfhaaDoorSh
import Derived.Test.YtpemgladmnbfhaaDoorQLx0
import Derived.Test.YtpemgladmnbfhaaDoorQLx1
import Derived.Test.YtpemgladmnbfhaaDoorQLx4
import Derived.Test.YtpemgladmnbfhaaDoorQLx5
import Derived.Test.YtpemgladmnbfhaaDoorQLx6
-- DENTED
namespace Go.Proofs.YtpemgladmnbfhaaDoor.QL
open Go.Proofs.YtpemgladmnbfhaaDoor.Sh
open Go.RowKit Go.Proofs.YtpemgladmnbfhaaDoorW.PrintWords Go.Proofs.YtpemgladmnbfhaaDoorW.PrintLast Go.Proofs.YtpemgladmnbfhaaDoorW.PrintMore
attribute [local go_sem] max2_int min2_int max_two min_two max_three min_three max_four min_four   -- for this text's walks alone
open Go.Proofs.YtpemgladmnbfhaaDoor.Fl Go.Proofs.YtpemgladmnbfhaaDoor.Wd
attribute [local go_sem high] bo_eq bo_ne bo_lt bo_le bo_gt bo_ge
attribute [local go_sem] run82 run76 neg_fl
set_option linter.unusedVariables false
set_option linter.unusedSimpArgs false

/-! ### lex_Lex: function 9 -/
def kindCells : Array Value := #[.func (.func 26) #[] #[], .func (.func 27) #[] #[], .func (.func 28) #[] #[], .func (.func 29) #[] #[], .func (.func 30) #[] #[], .func (.func 31) #[] #[], .func (.func 33) #[] #[], .func (.func 34) #[] #[], .func (.func 35) #[] #[], .func (.func 37) #[] #[], .func (.func 39) #[] #[], .func (.func 40) #[] #[]]
set_option maxHeartbeats 8000000 in
theorem kinds_walk (w : World) :
  Calls Tryd.prog 19 #[] w fun e w' => e = .returned (.slice (some ⟨w.heap.size, 0, none⟩) 4 4) ∧ w' = w.alloc (.cells kindCells 48) := by
 go_enter Tryd.func19, Tryd.ntmps19
 go_wp2
 go_ret
 exact ⟨rfl, rfl⟩
def lex_Lex.cut (s : ByteArray) (x n : Int) (g : Int → ByteArray → Int → Int → ByteArray → Int → Int → Option (Int × Int × ByteArray × Int × Int × ByteArray × Int × Int)) : Option (Int × Int × Int × ByteArray × Int × Int × ByteArray × Int × Int) :=
 if 0 ≤ n ∧ x + n ≤ (s.size : Int) then (g 0 (s.extract x.toNat (x + n).toNat) 0 0 ⟨#[]⟩ x (x + n)).bind fun r => some (n, r) else none
def lex_Lex.one (k : Nat) (s : ByteArray) (x : Int) : Option (Int × Int × Int × ByteArray × Int × Int × ByteArray × Int × Int) :=
 (lex_letter.f (bt s x)).bind fun c0 => if c0 = true then (lex_run.f k (s.extract x.toNat s.size)).bind fun n => lex_Lex.cut s x n lex_name.f
 else (lex_digit.f (bt s x)).bind fun c1 => if c1 = true then (lex_number.f k (s.extract x.toNat s.size)).bind fun n => lex_Lex.cut s x n (lex_kinds_1.f k)
 else (lex_kinds_2.f (bt s x)).bind fun c2 => if c2 = true then (lex_quoted.f (s.extract x.toNat s.size)).bind fun n => lex_Lex.cut s x n (lex_kinds_3.f k)
 else (lex_kinds_4.f (bt s x)).bind fun c3 => if c3 = true then (lex_sign.f (s.extract x.toNat s.size)).bind fun n => lex_Lex.cut s x n lex_kinds_5.f
 else some (0, 15, 0, ⟨#[]⟩, 0, 0, ⟨#[]⟩, 0, 0)
def lex_Lex.l0 : Nat → ByteArray → List S35 → Int → Option ((List S35) × Int × Int)
 | 0, _, _, _ => none
 | k + 1, s, out, x => if x < (s.size : Int) then (if 0 ≤ x then ((lex_Lex.one k s x).bind fun r => if r.2.1 = 0 then (if out.length < 1954687338268 then ((lex_skip.f s (x + r.1)).bind fun y => lex_Lex.l0 k s (out ++ [(⟨r.2.2.1, r.2.2.2.1, (⟨r.2.2.2.2.1, r.2.2.2.2.2.1⟩ : S33), r.2.2.2.2.2.2.1, r.2.2.2.2.2.2.2.1, r.2.2.2.2.2.2.2.2⟩ : S35)]) y) else none) else some ([], x, r.2.1)) else none) else some (out, 0, 0)
def lex_Lex.f (k : Nat) (a0 : ByteArray) : Option ((List S35) × Int × Int) := if (a0.size : Int) > 8192 then some ([], 0, 3) else (lex_skip.f a0 0).bind fun y => lex_Lex.l0 k a0 [] y
theorem quietD {P : Program} {f : FuncId} {args : Array Value} {w : World} {a : Nat} {v : Value} (h : Calls P f args (w.drewN a) fun e w' => e = .returned v ∧ Drawn0 (w.drewN a) w') : Calls P f args (w.drewN a) fun e w'' => e = .returned v ∧ ∃ n, w'' = w.drewN n :=
 h.mono fun _ _ ⟨he, ⟨n, hn⟩⟩ => ⟨he, a + n, by rw [hn, World.drewN_drewN]⟩
theorem quietE {P : Program} {f : FuncId} {args : Array Value} {w : World} {m a : Nat} {v : Value} (h : Calls P f args (w.drewN (m + a)) fun e w' => e = .returned v ∧ Drawn0 (w.drewN (m + a)) w') : Calls P f args (w.drewN (m + a)) fun e w'' => e = .returned v ∧ ∃ n, w'' = w.drewN (m + n) :=
 h.mono fun _ _ ⟨he, ⟨n, hn⟩⟩ => ⟨he, a + n, by rw [hn, World.drewN_drewN, Nat.add_assoc]⟩
theorem newTok {w0 W0 : World} {g : Nat} {f0 : Int} {f1 : ByteArray} {f2 f3 : Int} {f4 : ByteArray} {f5 f6 : Int} (hg : W0.heap.size = g) (hle : w0.heap.size ≤ W0.heap.size) :
  IsS35 w0 (W0.alloc (.cells #[.int .i64 f0, .string f1, .int .i64 f2, .int .i64 f3, .string f4, .int .i64 f5, .int .i64 f6] 35)) g f0 f1 f2 f3 f4 f5 f6 := by
 subst hg
 exact ⟨Array.getElem?_push_size, hle⟩
theorem ltok {w wr W w5 : World} {g : Nat} {v5 : Value} {x5 : List S35} {f0 : Int} {f1 : ByteArray} {f2 f3 : Int} {f4 : ByteArray} {f5 f6 : Int} (HO : Kd.R k35 35 wr w.heap.size (fun b => b ≠ w.heap.size) v5 x5) (BK : wr.heap[w.heap.size]? = some (.cells kindCells 48 (0, 0))) (hg : wr.heap.size ≤ g)
  (HKe : KeepBut W w5 g none) (hW : Below wr.heap.size wr W) (HI : IsS35 w w5 g f0 f1 f2 f3 f4 f5 f6) (HB5 : Below w.heap.size w w5) :
  Aside0 (IsS35 w w5 g f0 f1 f2 f3 f4 f5 f6) ∧ Aside0 (Below w.heap.size w w5) ∧ Aside0 (Kd.R k35 35 w5 w.heap.size (fun b => b ≠ w.heap.size ∧ b ≠ g) v5 x5) ∧ Aside0 (w5.heap[w.heap.size]? = some (.cells kindCells 48 (0, 0))) := by
 refine ⟨⟨HI⟩, ⟨HB5⟩, ⟨?_⟩, ⟨?_⟩⟩
 ·exact Kd.R_step (Kd.R_below (Kd.R_elderB HO g hg) hW) (fun k_ ho hlt => HKe.2 k_ hlt ho.2 (by simp))
 ·have h1 := (Array.getElem?_eq_some_iff.1 BK).1
  exact (HKe.2 _ (by have := hW.size; omega) (by omega) (by simp)).trans (blk_below BK hW)
theorem tokF {w5 : World} {a g : Nat} {o o' : Obj} (h : w5.heap[a]? = some o) (h' : w5.heap[g]? = some o') : ∀ k, w5.heap.size ≤ k → k ≠ a ∧ k ≠ g := by
 intro k hk
 have h1 := (Array.getElem?_eq_some_iff.1 h).1
 have h2 := (Array.getElem?_eq_some_iff.1 h').1
 exact ⟨by omega, by omega⟩
theorem lex_Lex.cut_some {s : ByteArray} {x n m : Int} {g : Int → ByteArray → Int → Int → ByteArray → Int → Int → Option (Int × Int × ByteArray × Int × Int × ByteArray × Int × Int)} {r : Int × Int × ByteArray × Int × Int × ByteArray × Int × Int}
  (h : lex_Lex.cut s x n g = some (m, r)) : 0 ≤ n ∧ x + n ≤ (s.size : Int) ∧ m = n ∧ g 0 (s.extract x.toNat (x + n).toNat) 0 0 ⟨#[]⟩ x (x + n) = some r := by
 unfold lex_Lex.cut at h
 by_cases c : 0 ≤ n ∧ x + n ≤ (s.size : Int)
 ·rw [if_pos c] at h
  obtain ⟨r', h1, h2⟩ := Option.bind_eq_some_iff.mp h
  obtain ⟨rfl, rfl⟩ := Prod.mk.inj (Option.some.inj h2)
  exact ⟨c.1, c.2, rfl, h1⟩
 ·rw [if_neg c] at h; cases h
theorem lex_Lex.cut_mono {s : ByteArray} {x n : Int} {g g' : Int → ByteArray → Int → Int → ByteArray → Int → Int → Option (Int × Int × ByteArray × Int × Int × ByteArray × Int × Int)} (h : ∀ a b c d e f i, LeO (g a b c d e f i) (g' a b c d e f i)) : LeO (lex_Lex.cut s x n g) (lex_Lex.cut s x n g') := by
 unfold lex_Lex.cut
 exact LeO.ite (LeO.bind (h _ _ _ _ _ _ _) fun _ => LeO.refl _) (LeO.none _)
theorem lex_Lex.one_mono (k : Nat) (s : ByteArray) (x : Int) : LeO (lex_Lex.one k s x) (lex_Lex.one (k + 1) s x) := by
 unfold lex_Lex.one
 refine LeO.bind (LeO.refl _) fun _ => LeO.ite (LeO.bind (lex_run.mono _ _) fun _ => LeO.refl _) ?_
 refine LeO.bind (LeO.refl _) fun _ => LeO.ite (LeO.bind (lex_number.mono _ _) fun _ => lex_Lex.cut_mono fun _ _ _ _ _ _ _ => lex_kinds_1.mono _ _ _ _ _ _ _ _) ?_
 refine LeO.bind (LeO.refl _) fun _ => LeO.ite (LeO.bind (LeO.refl _) fun _ => lex_Lex.cut_mono fun _ _ _ _ _ _ _ => lex_kinds_3.mono _ _ _ _ _ _ _ _) ?_
 exact LeO.refl _
theorem lex_Lex.mono_l : ∀ (k : Nat) (s : ByteArray) (out : List S35) (x : Int), LeO (lex_Lex.l0 k s out x) (lex_Lex.l0 (k + 1) s out x)
 | 0, _, _, _ => fun r h => by simp [lex_Lex.l0] at h
 | k + 1, s, out, x => by
  have ih := lex_Lex.mono_l k
  unfold lex_Lex.l0
  refine LeO.ite (LeO.ite (LeO.bind (lex_Lex.one_mono k s x) fun r => LeO.ite (LeO.ite (LeO.bind (LeO.refl _) fun y => ih _ _ _) (LeO.refl _)) (LeO.refl _)) (LeO.refl _)) (LeO.refl _)
theorem lex_Lex.mono : ∀ a0 k, LeO (lex_Lex.f k a0) (lex_Lex.f (k + 1) a0) := by
 intro a0 k
 unfold lex_Lex.f
 exact LeO.ite (LeO.refl _) (LeO.bind (LeO.refl _) fun y => lex_Lex.mono_l k _ _ _)
set_option maxHeartbeats 8000000 in
set_option maxRecDepth 100000 in
theorem lex_Lex.calls (k : Nat) (a0 : ByteArray) (r1 : List (S35)) (r2 : Int) (r3 : Int) (w : World) (h : lex_Lex.f k a0 = some (r1, r2, r3)) (hG : Aside0 (Gw w) := by first | exact hG | exact ⟨hG.out.below (by repeat (first | (with_reducible first | exact HB.out | apply zb | apply zn | apply zd | refine zs ?_ (IsS35.ge HI0.out)) | exact HB.out))⟩ | exact ⟨Go.Proofs.YtpemgladmnbfhaaDoor.Wd.Gw.drewN hG.out _⟩) :
  Calls Tryd.prog 9 #[.string a0] w fun e w' => ∃ v0_ : Value, e = .returned (.tuple #[v0_, .int .i64 r2, .int .i64 r3]) ∧ Kd.R k35 35 w' w.heap.size (fun _ => True) v0_ r1 ∧ Below w.heap.size w w' := by
 have hu35 := Tryd.underlying35
 have HB := Aside0.mk (Below.refl w.heap.size w)
 unfold lex_Lex.f at h
 by_cases c2 : (a0.size : Int) > 8192
 ·rw [if_pos c2] at h
  have c2b0 : decide (8192 < (a0.size : Int)) = true := decide_eq_true c2
  have c2b1 : decide (8192 < a0.size) = true := decide_eq_true (by omega)
  clear c2
  simp only [Option.some.injEq, Prod.mk.injEq] at h
  obtain ⟨rfl, rfl, rfl⟩ := h
  go_enter Tryd.func9, Tryd.ntmps9
  go_wp2
  go_step3
  go_wp2
  rw [Exit.noGoto_ret]
  go_ret3
  exact ⟨_, rfl, Kd.R_nil _ _ _ _ _, HB.out⟩
 ·rw [if_neg c2] at h
  have c2b0 : decide (8192 < (a0.size : Int)) = false := decide_eq_false c2
  have c2b1 : decide (8192 < a0.size) = false := decide_eq_false (by omega)
  have HZ : Aside0 (a0.size ≤ 8192) := ⟨by omega⟩
  clear c2
  replace h := Option.bind_eq_some_iff.mp h
  obtain ⟨y0, A30, H⟩ := h
  have A3 := Aside0.mk A30
  clear A30
  have H' := Aside0.mk H
  clear H
  have CK := Aside0.mk (kinds_walk w)
  go_enter Tryd.func9, Tryd.ntmps9
  go_wp2
  go_step3
  go_wp2_with (first | (go_at_call 19; (with_reducible refine CK.out.mono ?_); rintro e w' ⟨rfl, rfl⟩) | (go_at_call 20; (with_reducible refine (lex_skip.calls a0 0 y0 _ A3.out).mono ?_); rintro e w' ⟨rfl, ⟨nd, rfl⟩⟩))
  go_step3
  go_wp2_with (first | (go_at_call 19; (with_reducible refine CK.out.mono ?_); rintro e w' ⟨rfl, rfl⟩) | (go_at_call 20; (with_reducible refine (lex_skip.calls a0 0 y0 _ A3.out).mono ?_); rintro e w' ⟨rfl, ⟨nd, rfl⟩⟩))
  have HB1 : Aside0 (Below w.heap.size w ((w.alloc (.cells kindCells 48)).drewN nd)) := ⟨pw_below_drewN (below_alloc (Below.refl _ _) _) _⟩
  have BK1 : Aside0 (((w.alloc (.cells kindCells 48)).drewN nd).heap[w.heap.size]? = some (.cells kindCells 48 (0, 0))) := ⟨by
   show ((w.alloc (.cells kindCells 48)).heap)[w.heap.size]? = _
   exact Array.getElem?_push_size⟩
  clear A3 CK HB
  go_loopg [5, 7] k (fun kq v5 v7 w' => ∃ (x5 : List (S35)) (x7 : Int), v7 = .int .i64 x7 ∧ Aside0 (lex_Lex.l0 kq a0 x5 x7 = some (r1, r2, r3)) ∧ Aside0 (kq ≤ k) ∧ Aside0 (Kd.R k35 35 w' w.heap.size (fun b => b ≠ w.heap.size) v5 x5) ∧ Aside0 (w'.heap[w.heap.size]? = some (.cells kindCells 48 (0, 0))) ∧ Aside0 (Below w.heap.size w w'))
  case atStart => exact ⟨[], y0, rfl, H', ⟨Nat.le_refl _⟩, ⟨Kd.R_nil _ _ _ _ _⟩, BK1, HB1⟩
  case round =>
   clear H' HB1 BK1
   obtain ⟨x5, x7, rfl, HA, HK1, HO, BK, HB⟩ := hrel
   cases gk with
   | zero => exact absurd HA.out (by simp [lex_Lex.l0])
   | succ k1 =>
    have H := HA.out
    clear HA
    simp only [lex_Lex.l0] at H
    by_cases c4 : x7 < (a0.size : Int)
    ·rw [if_pos c4] at H
     by_cases c5 : 0 ≤ x7
     ·rw [if_pos c5] at H
      replace H := Option.bind_eq_some_iff.mp H
      obtain ⟨⟨n, e, t0, t1, t2, t3, t4, t5, t6⟩, A, H⟩ := H
      have c4b0 : decide (x7 < (a0.size : Int)) = true := decide_eq_true c4
      have c5b0 : decide (0 ≤ x7) = true := decide_eq_true c5
      have c5b1 : decide (x7 ≤ (a0.size : Int)) = true := decide_eq_true (by omega)
      unfold lex_Lex.one at A
      obtain ⟨i, rfl⟩ := Int.eq_ofNat_of_zero_le c5
      have hi : i < a0.size := by omega
      have hi2 : i ≤ a0.size := by omega
      have hx : ((a0[i]).toNat : Int) = bt a0 i := bt_at a0 i hi
      simp only [Int.toNat_natCast] at A
      have hk0 : wr.cell? ⟨w.heap.size, 0, none⟩ = some (.func (.func 26) #[] #[]) := (blk_cell BK.out 0).trans rfl
      have hk1 : wr.cell? ⟨w.heap.size, 1, none⟩ = some (.func (.func 27) #[] #[]) := (blk_cell BK.out 1).trans rfl
      have hk2 : wr.cell? ⟨w.heap.size, 2, none⟩ = some (.func (.func 28) #[] #[]) := (blk_cell BK.out 2).trans rfl
      have hk3 : wr.cell? ⟨w.heap.size, 3, none⟩ = some (.func (.func 29) #[] #[]) := (blk_cell BK.out 3).trans rfl
      have hk4 : wr.cell? ⟨w.heap.size, 4, none⟩ = some (.func (.func 30) #[] #[]) := (blk_cell BK.out 4).trans rfl
      have hk5 : wr.cell? ⟨w.heap.size, 5, none⟩ = some (.func (.func 31) #[] #[]) := (blk_cell BK.out 5).trans rfl
      have hk6 : wr.cell? ⟨w.heap.size, 6, none⟩ = some (.func (.func 33) #[] #[]) := (blk_cell BK.out 6).trans rfl
      have hk7 : wr.cell? ⟨w.heap.size, 7, none⟩ = some (.func (.func 34) #[] #[]) := (blk_cell BK.out 7).trans rfl
      have hk8 : wr.cell? ⟨w.heap.size, 8, none⟩ = some (.func (.func 35) #[] #[]) := (blk_cell BK.out 8).trans rfl
      have hk9 : wr.cell? ⟨w.heap.size, 9, none⟩ = some (.func (.func 37) #[] #[]) := (blk_cell BK.out 9).trans rfl
      have hk10 : wr.cell? ⟨w.heap.size, 10, none⟩ = some (.func (.func 39) #[] #[]) := (blk_cell BK.out 10).trans rfl
      have hk11 : wr.cell? ⟨w.heap.size, 11, none⟩ = some (.func (.func 40) #[] #[]) := (blk_cell BK.out 11).trans rfl
      have hgw : w.heap.size < wr.heap.size := (Array.getElem?_eq_some_iff.1 BK.out).1
      have hgw1 : w.heap.size < wr.heap.size + 1 := by omega
      have hgw2 : w.heap.size < wr.heap.size + 1 + 1 := by omega
      have hgw3 : w.heap.size < wr.heap.size + 1 + 1 + 1 := by omega
      obtain ⟨b0, A0, A⟩ := Option.bind_eq_some_iff.mp A
      by_cases d0 : b0 = true
      ·subst d0
       rw [if_pos rfl] at A
       have B0 := Aside0.mk A0
       clear A0
       obtain ⟨n', An, A⟩ := Option.bind_eq_some_iff.mp A
       obtain ⟨hn0, hn1, rfl, A⟩ := lex_Lex.cut_some A
       obtain ⟨m, rfl⟩ := Int.eq_ofNat_of_zero_le hn0
       have him : i + m ≤ a0.size := by omega
       have hzs := HZ.out
       have etn : ((i : Int) + (m : Int)).toNat = i + m := by omega
       simp only [Int.toNat_natCast, etn] at A
       clear etn
       have Bn := Aside0.mk An
       have Bs := Aside0.mk A
       clear An A
       by_cases c6 : e = 0
       ·rw [if_pos c6] at H
        have c6b0 : (e == 0) = true := beq_iff_eq.mpr c6
        have c6b1 : (e != 0) = false := bne_eq_false_iff_eq.mpr c6
        clear c6
        by_cases c7 : x5.length < 1954687338268
        ·rw [if_pos c7] at H
         have LM := Aside0.mk c7
         clear c7
         obtain ⟨y, Ay, H⟩ := Option.bind_eq_some_iff.mp H
         have By := Aside0.mk Ay
         have H' := Aside0.mk H
         clear Ay H
         go_wp2
         refine wp_loop_rounds 1 ?_
         rw [rounds_succ]
         go_wp2
         go_quiet (first | (go_at_call 26; first | exact quietD (lex_letter.calls (bt a0 i) true _ B0.out) | exact quietE (lex_letter.calls (bt a0 i) true _ B0.out)))
         go_wp2
         go_quiet (first | (go_at_call 27; first | exact quietD (lex_run.calls k1 _ _ _ Bn.out) | exact quietE (lex_run.calls k1 _ _ _ Bn.out)))
         go_wp2_with (first | (go_at_call 28; refine (lex_name.calls _ _ _ _ _ _ _ _ e t0 t1 t2 t3 t4 t5 t6 w _ (newTok (by simp) (below_size (by repeat (first | (with_reducible first | exact HB.out | apply zb | apply zn | apply zd) | exact HB.out)))) (by repeat (first | (with_reducible first | exact HB.out | apply zb | apply zn | apply zd) | exact HB.out)) Bs.out hG).mono ?_; rintro e' w5 ⟨rfl, HI, HB5, HKe⟩; have QQ := ltok HO.out BK.out (by omega) HKe (by repeat (first | with_reducible exact Below.refl _ _ | apply zb | apply zn | apply zd)) HI HB5; clear HKe HI HB5; obtain ⟨HI, HB5, HO5, BK5⟩ := QQ; have hcz0 := cellS35_0 HI.out.1; have hcz1 := cellS35_1 HI.out.1; have hcz2 := cellS35_2 HI.out.1; have hcz3 := cellS35_3 HI.out.1; have hcz4 := cellS35_4 HI.out.1; have hcz5 := cellS35_5 HI.out.1; have hcz6 := cellS35_6 HI.out.1) | ((with_reducible refine gate_builtin (b := .append) (xs := #[.tmp 60, .tmp 62]) rfl ?_); at_builtin; refine Kd.R_append k35 (w0 := w) w.heap.size rfl (.tmp 60) (.tmp 62) 22 35 (.agg #[(.int .i64 0), (.string ⟨#[]⟩), (.int .i64 0), (.int .i64 0), (.string ⟨#[]⟩), (.int .i64 0), (.int .i64 0)]) 72 rfl Tryd.underlying22 info35 rfl (by decide) (by omega) u5 x5 (⟨t0, t1, (⟨t2, t3⟩ : S33), t4, t5, t6⟩ : S35) [.int .i64 t0, .string t1, .int .i64 t2, .int .i64 t3, .string t4, .int .i64 t5, .int .i64 t6] (fun k_ => k_ ≠ w.heap.size ∧ k_ ≠ wr.heap.size + 1) (fun _ => False) rfl (by first | (go_simp; done) | (go_simp; rfl)) ?aP (fun _ hk => hk.elim) ?aF ?aO ?aB ?aS ?aL ?_; (case aP => exact k35_mkM _ _ _ (⟨t0, t1, (⟨t2, t3⟩ : S33), t4, t5, t6⟩ : S35)); (case aB => exact HB5.out); (case aF => exact tokF BK5.out HI.out.1); (case aO => exact HO5.out); (case aS => exact below_size HB5.out); (case aL => have := LM.out; omega); intro v1 w6 ho hb hg hat; have HO6 := Aside0.mk ho; have HB6 := Aside0.mk hb; have BK6 := Aside0.mk (blk_grown BK5.out hg (Kd.R_away HO5.out (fun _ hk => hk.1))); clear ho hb hg hat HO5 BK5 HB5) | (go_at_call 20; (with_reducible refine (lex_skip.calls a0 (i + m) y _ By.out).mono ?_); rintro e' w' ⟨rfl, ⟨nd, rfl⟩⟩))
         go_roundg k1
         case measure => have := HK1.out; omega
         case rel => exact ⟨x5 ++ [(⟨t0, t1, (⟨t2, t3⟩ : S33), t4, t5, t6⟩ : S35)], y, rfl, H', ⟨by have := HK1.out; omega⟩, ⟨Kd.R_mono (Kd.R_drewN HO6.out _) (fun _ hk => hk.1)⟩, ⟨blk_drewN BK6.out _⟩, ⟨pw_below_drewN HB6.out _⟩⟩
        ·rw [if_neg c7] at H; cases H
       ·rw [if_neg c6] at H
        have c6b0 : (e == 0) = false := beq_eq_false_iff_ne.mpr c6
        have c6b1 : (e != 0) = true := bne_iff_ne.mpr c6
        clear c6
        simp only [Option.some.injEq, Prod.mk.injEq] at H
        obtain ⟨rfl, rfl, rfl⟩ := H
        go_wp2
        refine wp_loop_rounds 1 ?_
        rw [rounds_succ]
        go_wp2
        go_quiet (first | (go_at_call 26; first | exact quietD (lex_letter.calls (bt a0 i) true _ B0.out) | exact quietE (lex_letter.calls (bt a0 i) true _ B0.out)))
        go_wp2
        go_quiet (first | (go_at_call 27; first | exact quietD (lex_run.calls k1 _ _ _ Bn.out) | exact quietE (lex_run.calls k1 _ _ _ Bn.out)))
        go_wp2_with (go_at_call 28; refine (lex_name.calls _ _ _ _ _ _ _ _ e t0 t1 t2 t3 t4 t5 t6 w _ (newTok (by simp) (below_size (by repeat (first | (with_reducible first | exact HB.out | apply zb | apply zn | apply zd) | exact HB.out)))) (by repeat (first | (with_reducible first | exact HB.out | apply zb | apply zn | apply zd) | exact HB.out)) Bs.out hG).mono ?_; rintro e' w5 ⟨rfl, HI, HB5, HKe⟩; have QQ := ltok HO.out BK.out (by omega) HKe (by repeat (first | with_reducible exact Below.refl _ _ | apply zb | apply zn | apply zd)) HI HB5; clear HKe HI HB5; obtain ⟨HI, HB5, HO5, BK5⟩ := QQ; have hcz0 := cellS35_0 HI.out.1; have hcz1 := cellS35_1 HI.out.1; have hcz2 := cellS35_2 HI.out.1; have hcz3 := cellS35_3 HI.out.1; have hcz4 := cellS35_4 HI.out.1; have hcz5 := cellS35_5 HI.out.1; have hcz6 := cellS35_6 HI.out.1)
        rw [Exit.noGoto_ret]
        go_ret3
        exact ⟨_, rfl, Kd.R_nil _ _ _ _ _, HB5.out⟩
      ·replace d0 := Bool.eq_false_iff.mpr d0
       subst d0
       rw [if_neg (show ¬ (false = true) by decide)] at A
       have B0 := Aside0.mk A0
       clear A0
       obtain ⟨b1, A1, A⟩ := Option.bind_eq_some_iff.mp A
       by_cases d1 : b1 = true
       ·subst d1
        rw [if_pos rfl] at A
        have B1 := Aside0.mk A1
        clear A1
        obtain ⟨n', An, A⟩ := Option.bind_eq_some_iff.mp A
        obtain ⟨hn0, hn1, rfl, A⟩ := lex_Lex.cut_some A
        obtain ⟨m, rfl⟩ := Int.eq_ofNat_of_zero_le hn0
        have him : i + m ≤ a0.size := by omega
        have hzs := HZ.out
        have etn : ((i : Int) + (m : Int)).toNat = i + m := by omega
        simp only [Int.toNat_natCast, etn] at A
        clear etn
        have Bn := Aside0.mk An
        have Bs := Aside0.mk A
        clear An A
        by_cases c6 : e = 0
        ·rw [if_pos c6] at H
         have c6b0 : (e == 0) = true := beq_iff_eq.mpr c6
         have c6b1 : (e != 0) = false := bne_eq_false_iff_eq.mpr c6
         clear c6
         by_cases c7 : x5.length < 1954687338268
         ·rw [if_pos c7] at H
          have LM := Aside0.mk c7
          clear c7
          obtain ⟨y, Ay, H⟩ := Option.bind_eq_some_iff.mp H
          have By := Aside0.mk Ay
          have H' := Aside0.mk H
          clear Ay H
          go_wp2
          refine wp_loop_rounds 2 ?_
          rw [rounds_succ]
          go_wp2
          go_quiet (first | (go_at_call 26; first | exact quietD (lex_letter.calls (bt a0 i) false _ B0.out) | exact quietE (lex_letter.calls (bt a0 i) false _ B0.out)))
          go_wp2
          rw [rounds_succ]
          go_wp2
          go_quiet (first | (go_at_call 29; first | exact quietD (lex_digit.calls (bt a0 i) true _ B1.out) | exact quietE (lex_digit.calls (bt a0 i) true _ B1.out)))
          go_wp2
          go_quiet (first | (go_at_call 30; first | exact quietD (lex_number.calls k1 _ _ _ Bn.out) | exact quietE (lex_number.calls k1 _ _ _ Bn.out)))
          go_wp2_with (first | (go_at_call 31; refine (lex_kinds_1.calls k1 _ _ _ _ _ _ _ _ e t0 t1 t2 t3 t4 t5 t6 w _ (newTok (by simp) (below_size (by repeat (first | (with_reducible first | exact HB.out | apply zb | apply zn | apply zd) | exact HB.out)))) (by repeat (first | (with_reducible first | exact HB.out | apply zb | apply zn | apply zd) | exact HB.out)) Bs.out).mono ?_; rintro e' w5 ⟨rfl, HI, HB5, HKe⟩; have QQ := ltok HO.out BK.out (by omega) HKe (by repeat (first | with_reducible exact Below.refl _ _ | apply zb | apply zn | apply zd)) HI HB5; clear HKe HI HB5; obtain ⟨HI, HB5, HO5, BK5⟩ := QQ; have hcz0 := cellS35_0 HI.out.1; have hcz1 := cellS35_1 HI.out.1; have hcz2 := cellS35_2 HI.out.1; have hcz3 := cellS35_3 HI.out.1; have hcz4 := cellS35_4 HI.out.1; have hcz5 := cellS35_5 HI.out.1; have hcz6 := cellS35_6 HI.out.1) | ((with_reducible refine gate_builtin (b := .append) (xs := #[.tmp 60, .tmp 62]) rfl ?_); at_builtin; refine Kd.R_append k35 (w0 := w) w.heap.size rfl (.tmp 60) (.tmp 62) 22 35 (.agg #[(.int .i64 0), (.string ⟨#[]⟩), (.int .i64 0), (.int .i64 0), (.string ⟨#[]⟩), (.int .i64 0), (.int .i64 0)]) 72 rfl Tryd.underlying22 info35 rfl (by decide) (by omega) u5 x5 (⟨t0, t1, (⟨t2, t3⟩ : S33), t4, t5, t6⟩ : S35) [.int .i64 t0, .string t1, .int .i64 t2, .int .i64 t3, .string t4, .int .i64 t5, .int .i64 t6] (fun k_ => k_ ≠ w.heap.size ∧ k_ ≠ wr.heap.size + 2) (fun _ => False) rfl (by first | (go_simp; done) | (go_simp; rfl)) ?aP (fun _ hk => hk.elim) ?aF ?aO ?aB ?aS ?aL ?_; (case aP => exact k35_mkM _ _ _ (⟨t0, t1, (⟨t2, t3⟩ : S33), t4, t5, t6⟩ : S35)); (case aB => exact HB5.out); (case aF => exact tokF BK5.out HI.out.1); (case aO => exact HO5.out); (case aS => exact below_size HB5.out); (case aL => have := LM.out; omega); intro v1 w6 ho hb hg hat; have HO6 := Aside0.mk ho; have HB6 := Aside0.mk hb; have BK6 := Aside0.mk (blk_grown BK5.out hg (Kd.R_away HO5.out (fun _ hk => hk.1))); clear ho hb hg hat HO5 BK5 HB5) | (go_at_call 20; (with_reducible refine (lex_skip.calls a0 (i + m) y _ By.out).mono ?_); rintro e' w' ⟨rfl, ⟨nd, rfl⟩⟩))
          go_roundg k1
          case measure => have := HK1.out; omega
          case rel => exact ⟨x5 ++ [(⟨t0, t1, (⟨t2, t3⟩ : S33), t4, t5, t6⟩ : S35)], y, rfl, H', ⟨by have := HK1.out; omega⟩, ⟨Kd.R_mono (Kd.R_drewN HO6.out _) (fun _ hk => hk.1)⟩, ⟨blk_drewN BK6.out _⟩, ⟨pw_below_drewN HB6.out _⟩⟩
         ·rw [if_neg c7] at H; cases H
        ·rw [if_neg c6] at H
         have c6b0 : (e == 0) = false := beq_eq_false_iff_ne.mpr c6
         have c6b1 : (e != 0) = true := bne_iff_ne.mpr c6
         clear c6
         simp only [Option.some.injEq, Prod.mk.injEq] at H
         obtain ⟨rfl, rfl, rfl⟩ := H
         go_wp2
         refine wp_loop_rounds 2 ?_
         rw [rounds_succ]
         go_wp2
         go_quiet (first | (go_at_call 26; first | exact quietD (lex_letter.calls (bt a0 i) false _ B0.out) | exact quietE (lex_letter.calls (bt a0 i) false _ B0.out)))
         go_wp2
         rw [rounds_succ]
         go_wp2
         go_quiet (first | (go_at_call 29; first | exact quietD (lex_digit.calls (bt a0 i) true _ B1.out) | exact quietE (lex_digit.calls (bt a0 i) true _ B1.out)))
         go_wp2
         go_quiet (first | (go_at_call 30; first | exact quietD (lex_number.calls k1 _ _ _ Bn.out) | exact quietE (lex_number.calls k1 _ _ _ Bn.out)))
         go_wp2_with (go_at_call 31; refine (lex_kinds_1.calls k1 _ _ _ _ _ _ _ _ e t0 t1 t2 t3 t4 t5 t6 w _ (newTok (by simp) (below_size (by repeat (first | (with_reducible first | exact HB.out | apply zb | apply zn | apply zd) | exact HB.out)))) (by repeat (first | (with_reducible first | exact HB.out | apply zb | apply zn | apply zd) | exact HB.out)) Bs.out).mono ?_; rintro e' w5 ⟨rfl, HI, HB5, HKe⟩; have QQ := ltok HO.out BK.out (by omega) HKe (by repeat (first | with_reducible exact Below.refl _ _ | apply zb | apply zn | apply zd)) HI HB5; clear HKe HI HB5; obtain ⟨HI, HB5, HO5, BK5⟩ := QQ; have hcz0 := cellS35_0 HI.out.1; have hcz1 := cellS35_1 HI.out.1; have hcz2 := cellS35_2 HI.out.1; have hcz3 := cellS35_3 HI.out.1; have hcz4 := cellS35_4 HI.out.1; have hcz5 := cellS35_5 HI.out.1; have hcz6 := cellS35_6 HI.out.1)
         rw [Exit.noGoto_ret]
         go_ret3
         exact ⟨_, rfl, Kd.R_nil _ _ _ _ _, HB5.out⟩
       ·replace d1 := Bool.eq_false_iff.mpr d1
        subst d1
        rw [if_neg (show ¬ (false = true) by decide)] at A
        have B1 := Aside0.mk A1
        clear A1
        obtain ⟨b2, A2, A⟩ := Option.bind_eq_some_iff.mp A
        by_cases d2 : b2 = true
        ·subst d2
         rw [if_pos rfl] at A
         have B2 := Aside0.mk A2
         clear A2
         obtain ⟨n', An, A⟩ := Option.bind_eq_some_iff.mp A
         obtain ⟨hn0, hn1, rfl, A⟩ := lex_Lex.cut_some A
         obtain ⟨m, rfl⟩ := Int.eq_ofNat_of_zero_le hn0
         have him : i + m ≤ a0.size := by omega
         have hzs := HZ.out
         have etn : ((i : Int) + (m : Int)).toNat = i + m := by omega
         simp only [Int.toNat_natCast, etn] at A
         clear etn
         have Bn := Aside0.mk An
         have Bs := Aside0.mk A
         clear An A
         by_cases c6 : e = 0
         ·rw [if_pos c6] at H
          have c6b0 : (e == 0) = true := beq_iff_eq.mpr c6
          have c6b1 : (e != 0) = false := bne_eq_false_iff_eq.mpr c6
          clear c6
          by_cases c7 : x5.length < 1954687338268
          ·rw [if_pos c7] at H
           have LM := Aside0.mk c7
           clear c7
           obtain ⟨y, Ay, H⟩ := Option.bind_eq_some_iff.mp H
           have By := Aside0.mk Ay
           have H' := Aside0.mk H
           clear Ay H
           go_wp2
           refine wp_loop_rounds 3 ?_
           rw [rounds_succ]
           go_wp2
           go_quiet (first | (go_at_call 26; first | exact quietD (lex_letter.calls (bt a0 i) false _ B0.out) | exact quietE (lex_letter.calls (bt a0 i) false _ B0.out)))
           go_wp2
           rw [rounds_succ]
           go_wp2
           go_quiet (first | (go_at_call 29; first | exact quietD (lex_digit.calls (bt a0 i) false _ B1.out) | exact quietE (lex_digit.calls (bt a0 i) false _ B1.out)))
           go_wp2
           rw [rounds_succ]
           go_wp2
           go_quiet (first | (go_at_call 33; first | exact quietD (lex_kinds_2.calls (bt a0 i) true _ B2.out) | exact quietE (lex_kinds_2.calls (bt a0 i) true _ B2.out)))
           go_wp2
           go_quiet (first | (go_at_call 34; first | exact quietD (lex_quoted.calls _ _ _ Bn.out) | exact quietE (lex_quoted.calls _ _ _ Bn.out)))
           go_wp2_with (first | (go_at_call 35; refine (lex_kinds_3.calls k1 _ _ _ _ _ _ _ _ e t0 t1 t2 t3 t4 t5 t6 w _ (newTok (by simp) (below_size (by repeat (first | (with_reducible first | exact HB.out | apply zb | apply zn | apply zd) | exact HB.out)))) (by repeat (first | (with_reducible first | exact HB.out | apply zb | apply zn | apply zd) | exact HB.out)) Bs.out).mono ?_; rintro e' w5 ⟨rfl, HI, HB5, HKe⟩; have QQ := ltok HO.out BK.out (by omega) HKe (by repeat (first | with_reducible exact Below.refl _ _ | apply zb | apply zn | apply zd)) HI HB5; clear HKe HI HB5; obtain ⟨HI, HB5, HO5, BK5⟩ := QQ; have hcz0 := cellS35_0 HI.out.1; have hcz1 := cellS35_1 HI.out.1; have hcz2 := cellS35_2 HI.out.1; have hcz3 := cellS35_3 HI.out.1; have hcz4 := cellS35_4 HI.out.1; have hcz5 := cellS35_5 HI.out.1; have hcz6 := cellS35_6 HI.out.1) | ((with_reducible refine gate_builtin (b := .append) (xs := #[.tmp 60, .tmp 62]) rfl ?_); at_builtin; refine Kd.R_append k35 (w0 := w) w.heap.size rfl (.tmp 60) (.tmp 62) 22 35 (.agg #[(.int .i64 0), (.string ⟨#[]⟩), (.int .i64 0), (.int .i64 0), (.string ⟨#[]⟩), (.int .i64 0), (.int .i64 0)]) 72 rfl Tryd.underlying22 info35 rfl (by decide) (by omega) u5 x5 (⟨t0, t1, (⟨t2, t3⟩ : S33), t4, t5, t6⟩ : S35) [.int .i64 t0, .string t1, .int .i64 t2, .int .i64 t3, .string t4, .int .i64 t5, .int .i64 t6] (fun k_ => k_ ≠ w.heap.size ∧ k_ ≠ wr.heap.size + 3) (fun _ => False) rfl (by first | (go_simp; done) | (go_simp; rfl)) ?aP (fun _ hk => hk.elim) ?aF ?aO ?aB ?aS ?aL ?_; (case aP => exact k35_mkM _ _ _ (⟨t0, t1, (⟨t2, t3⟩ : S33), t4, t5, t6⟩ : S35)); (case aB => exact HB5.out); (case aF => exact tokF BK5.out HI.out.1); (case aO => exact HO5.out); (case aS => exact below_size HB5.out); (case aL => have := LM.out; omega); intro v1 w6 ho hb hg hat; have HO6 := Aside0.mk ho; have HB6 := Aside0.mk hb; have BK6 := Aside0.mk (blk_grown BK5.out hg (Kd.R_away HO5.out (fun _ hk => hk.1))); clear ho hb hg hat HO5 BK5 HB5) | (go_at_call 20; (with_reducible refine (lex_skip.calls a0 (i + m) y _ By.out).mono ?_); rintro e' w' ⟨rfl, ⟨nd, rfl⟩⟩))
           go_roundg k1
           case measure => have := HK1.out; omega
           case rel => exact ⟨x5 ++ [(⟨t0, t1, (⟨t2, t3⟩ : S33), t4, t5, t6⟩ : S35)], y, rfl, H', ⟨by have := HK1.out; omega⟩, ⟨Kd.R_mono (Kd.R_drewN HO6.out _) (fun _ hk => hk.1)⟩, ⟨blk_drewN BK6.out _⟩, ⟨pw_below_drewN HB6.out _⟩⟩
          ·rw [if_neg c7] at H; cases H
         ·rw [if_neg c6] at H
          have c6b0 : (e == 0) = false := beq_eq_false_iff_ne.mpr c6
          have c6b1 : (e != 0) = true := bne_iff_ne.mpr c6
          clear c6
          simp only [Option.some.injEq, Prod.mk.injEq] at H
          obtain ⟨rfl, rfl, rfl⟩ := H
          go_wp2
          refine wp_loop_rounds 3 ?_
          rw [rounds_succ]
          go_wp2
          go_quiet (first | (go_at_call 26; first | exact quietD (lex_letter.calls (bt a0 i) false _ B0.out) | exact quietE (lex_letter.calls (bt a0 i) false _ B0.out)))
          go_wp2
          rw [rounds_succ]
          go_wp2
          go_quiet (first | (go_at_call 29; first | exact quietD (lex_digit.calls (bt a0 i) false _ B1.out) | exact quietE (lex_digit.calls (bt a0 i) false _ B1.out)))
          go_wp2
          rw [rounds_succ]
          go_wp2
          go_quiet (first | (go_at_call 33; first | exact quietD (lex_kinds_2.calls (bt a0 i) true _ B2.out) | exact quietE (lex_kinds_2.calls (bt a0 i) true _ B2.out)))
          go_wp2
          go_quiet (first | (go_at_call 34; first | exact quietD (lex_quoted.calls _ _ _ Bn.out) | exact quietE (lex_quoted.calls _ _ _ Bn.out)))
          go_wp2_with (go_at_call 35; refine (lex_kinds_3.calls k1 _ _ _ _ _ _ _ _ e t0 t1 t2 t3 t4 t5 t6 w _ (newTok (by simp) (below_size (by repeat (first | (with_reducible first | exact HB.out | apply zb | apply zn | apply zd) | exact HB.out)))) (by repeat (first | (with_reducible first | exact HB.out | apply zb | apply zn | apply zd) | exact HB.out)) Bs.out).mono ?_; rintro e' w5 ⟨rfl, HI, HB5, HKe⟩; have QQ := ltok HO.out BK.out (by omega) HKe (by repeat (first | with_reducible exact Below.refl _ _ | apply zb | apply zn | apply zd)) HI HB5; clear HKe HI HB5; obtain ⟨HI, HB5, HO5, BK5⟩ := QQ; have hcz0 := cellS35_0 HI.out.1; have hcz1 := cellS35_1 HI.out.1; have hcz2 := cellS35_2 HI.out.1; have hcz3 := cellS35_3 HI.out.1; have hcz4 := cellS35_4 HI.out.1; have hcz5 := cellS35_5 HI.out.1; have hcz6 := cellS35_6 HI.out.1)
          rw [Exit.noGoto_ret]
          go_ret3
          exact ⟨_, rfl, Kd.R_nil _ _ _ _ _, HB5.out⟩
        ·replace d2 := Bool.eq_false_iff.mpr d2
         subst d2
         rw [if_neg (show ¬ (false = true) by decide)] at A
         have B2 := Aside0.mk A2
         clear A2
         obtain ⟨b3, A3, A⟩ := Option.bind_eq_some_iff.mp A
         by_cases d3 : b3 = true
         ·subst d3
          rw [if_pos rfl] at A
          have B3 := Aside0.mk A3
          clear A3
          obtain ⟨n', An, A⟩ := Option.bind_eq_some_iff.mp A
          obtain ⟨hn0, hn1, rfl, A⟩ := lex_Lex.cut_some A
          obtain ⟨m, rfl⟩ := Int.eq_ofNat_of_zero_le hn0
          have him : i + m ≤ a0.size := by omega
          have hzs := HZ.out
          have etn : ((i : Int) + (m : Int)).toNat = i + m := by omega
          simp only [Int.toNat_natCast, etn] at A
          clear etn
          have Bn := Aside0.mk An
          have Bs := Aside0.mk A
          clear An A
          by_cases c6 : e = 0
          ·rw [if_pos c6] at H
           have c6b0 : (e == 0) = true := beq_iff_eq.mpr c6
           have c6b1 : (e != 0) = false := bne_eq_false_iff_eq.mpr c6
           clear c6
           by_cases c7 : x5.length < 1954687338268
           ·rw [if_pos c7] at H
            have LM := Aside0.mk c7
            clear c7
            obtain ⟨y, Ay, H⟩ := Option.bind_eq_some_iff.mp H
            have By := Aside0.mk Ay
            have H' := Aside0.mk H
            clear Ay H
            go_wp2
            refine wp_loop_rounds 4 ?_
            rw [rounds_succ]
            go_wp2
            go_quiet (first | (go_at_call 26; first | exact quietD (lex_letter.calls (bt a0 i) false _ B0.out) | exact quietE (lex_letter.calls (bt a0 i) false _ B0.out)))
            go_wp2
            rw [rounds_succ]
            go_wp2
            go_quiet (first | (go_at_call 29; first | exact quietD (lex_digit.calls (bt a0 i) false _ B1.out) | exact quietE (lex_digit.calls (bt a0 i) false _ B1.out)))
            go_wp2
            rw [rounds_succ]
            go_wp2
            go_quiet (first | (go_at_call 33; first | exact quietD (lex_kinds_2.calls (bt a0 i) false _ B2.out) | exact quietE (lex_kinds_2.calls (bt a0 i) false _ B2.out)))
            go_wp2
            rw [rounds_succ]
            go_wp2
            go_quiet (first | (go_at_call 37; first | exact quietD (lex_kinds_4.calls (bt a0 i) true _ B3.out) | exact quietE (lex_kinds_4.calls (bt a0 i) true _ B3.out)))
            go_wp2
            go_quiet (first | (go_at_call 39; first | exact quietD (lex_sign.calls _ _ _ Bn.out) | exact quietE (lex_sign.calls _ _ _ Bn.out)))
            go_wp2_with (first | (go_at_call 40; refine (lex_kinds_5.calls _ _ _ _ _ _ _ _ e t0 t1 t2 t3 t4 t5 t6 w _ (newTok (by simp) (below_size (by repeat (first | (with_reducible first | exact HB.out | apply zb | apply zn | apply zd) | exact HB.out)))) (by repeat (first | (with_reducible first | exact HB.out | apply zb | apply zn | apply zd) | exact HB.out)) Bs.out).mono ?_; rintro e' w5 ⟨rfl, HI, HB5, HKe⟩; have QQ := ltok HO.out BK.out (by omega) HKe (by repeat (first | with_reducible exact Below.refl _ _ | apply zb | apply zn | apply zd)) HI HB5; clear HKe HI HB5; obtain ⟨HI, HB5, HO5, BK5⟩ := QQ; have hcz0 := cellS35_0 HI.out.1; have hcz1 := cellS35_1 HI.out.1; have hcz2 := cellS35_2 HI.out.1; have hcz3 := cellS35_3 HI.out.1; have hcz4 := cellS35_4 HI.out.1; have hcz5 := cellS35_5 HI.out.1; have hcz6 := cellS35_6 HI.out.1) | ((with_reducible refine gate_builtin (b := .append) (xs := #[.tmp 60, .tmp 62]) rfl ?_); at_builtin; refine Kd.R_append k35 (w0 := w) w.heap.size rfl (.tmp 60) (.tmp 62) 22 35 (.agg #[(.int .i64 0), (.string ⟨#[]⟩), (.int .i64 0), (.int .i64 0), (.string ⟨#[]⟩), (.int .i64 0), (.int .i64 0)]) 72 rfl Tryd.underlying22 info35 rfl (by decide) (by omega) u5 x5 (⟨t0, t1, (⟨t2, t3⟩ : S33), t4, t5, t6⟩ : S35) [.int .i64 t0, .string t1, .int .i64 t2, .int .i64 t3, .string t4, .int .i64 t5, .int .i64 t6] (fun k_ => k_ ≠ w.heap.size ∧ k_ ≠ wr.heap.size + 4) (fun _ => False) rfl (by first | (go_simp; done) | (go_simp; rfl)) ?aP (fun _ hk => hk.elim) ?aF ?aO ?aB ?aS ?aL ?_; (case aP => exact k35_mkM _ _ _ (⟨t0, t1, (⟨t2, t3⟩ : S33), t4, t5, t6⟩ : S35)); (case aB => exact HB5.out); (case aF => exact tokF BK5.out HI.out.1); (case aO => exact HO5.out); (case aS => exact below_size HB5.out); (case aL => have := LM.out; omega); intro v1 w6 ho hb hg hat; have HO6 := Aside0.mk ho; have HB6 := Aside0.mk hb; have BK6 := Aside0.mk (blk_grown BK5.out hg (Kd.R_away HO5.out (fun _ hk => hk.1))); clear ho hb hg hat HO5 BK5 HB5) | (go_at_call 20; (with_reducible refine (lex_skip.calls a0 (i + m) y _ By.out).mono ?_); rintro e' w' ⟨rfl, ⟨nd, rfl⟩⟩))
            go_roundg k1
            case measure => have := HK1.out; omega
            case rel => exact ⟨x5 ++ [(⟨t0, t1, (⟨t2, t3⟩ : S33), t4, t5, t6⟩ : S35)], y, rfl, H', ⟨by have := HK1.out; omega⟩, ⟨Kd.R_mono (Kd.R_drewN HO6.out _) (fun _ hk => hk.1)⟩, ⟨blk_drewN BK6.out _⟩, ⟨pw_below_drewN HB6.out _⟩⟩
           ·rw [if_neg c7] at H; cases H
          ·rw [if_neg c6] at H
           have c6b0 : (e == 0) = false := beq_eq_false_iff_ne.mpr c6
           have c6b1 : (e != 0) = true := bne_iff_ne.mpr c6
           clear c6
           simp only [Option.some.injEq, Prod.mk.injEq] at H
           obtain ⟨rfl, rfl, rfl⟩ := H
           go_wp2
           refine wp_loop_rounds 4 ?_
           rw [rounds_succ]
           go_wp2
           go_quiet (first | (go_at_call 26; first | exact quietD (lex_letter.calls (bt a0 i) false _ B0.out) | exact quietE (lex_letter.calls (bt a0 i) false _ B0.out)))
           go_wp2
           rw [rounds_succ]
           go_wp2
           go_quiet (first | (go_at_call 29; first | exact quietD (lex_digit.calls (bt a0 i) false _ B1.out) | exact quietE (lex_digit.calls (bt a0 i) false _ B1.out)))
           go_wp2
           rw [rounds_succ]
           go_wp2
           go_quiet (first | (go_at_call 33; first | exact quietD (lex_kinds_2.calls (bt a0 i) false _ B2.out) | exact quietE (lex_kinds_2.calls (bt a0 i) false _ B2.out)))
           go_wp2
           rw [rounds_succ]
           go_wp2
           go_quiet (first | (go_at_call 37; first | exact quietD (lex_kinds_4.calls (bt a0 i) true _ B3.out) | exact quietE (lex_kinds_4.calls (bt a0 i) true _ B3.out)))
           go_wp2
           go_quiet (first | (go_at_call 39; first | exact quietD (lex_sign.calls _ _ _ Bn.out) | exact quietE (lex_sign.calls _ _ _ Bn.out)))
           go_wp2_with (go_at_call 40; refine (lex_kinds_5.calls _ _ _ _ _ _ _ _ e t0 t1 t2 t3 t4 t5 t6 w _ (newTok (by simp) (below_size (by repeat (first | (with_reducible first | exact HB.out | apply zb | apply zn | apply zd) | exact HB.out)))) (by repeat (first | (with_reducible first | exact HB.out | apply zb | apply zn | apply zd) | exact HB.out)) Bs.out).mono ?_; rintro e' w5 ⟨rfl, HI, HB5, HKe⟩; have QQ := ltok HO.out BK.out (by omega) HKe (by repeat (first | with_reducible exact Below.refl _ _ | apply zb | apply zn | apply zd)) HI HB5; clear HKe HI HB5; obtain ⟨HI, HB5, HO5, BK5⟩ := QQ; have hcz0 := cellS35_0 HI.out.1; have hcz1 := cellS35_1 HI.out.1; have hcz2 := cellS35_2 HI.out.1; have hcz3 := cellS35_3 HI.out.1; have hcz4 := cellS35_4 HI.out.1; have hcz5 := cellS35_5 HI.out.1; have hcz6 := cellS35_6 HI.out.1)
           rw [Exit.noGoto_ret]
           go_ret3
           exact ⟨_, rfl, Kd.R_nil _ _ _ _ _, HB5.out⟩
         ·replace d3 := Bool.eq_false_iff.mpr d3
          subst d3
          rw [if_neg (show ¬ (false = true) by decide)] at A
          have B3 := Aside0.mk A3
          clear A3
          simp only [Option.some.injEq, Prod.mk.injEq] at A
          obtain ⟨rfl, rfl, rfl, rfl, rfl, rfl, rfl, rfl, rfl⟩ := A
          rw [if_neg (show ¬ ((15 : Int) = 0) by decide)] at H
          simp only [Option.some.injEq, Prod.mk.injEq] at H
          obtain ⟨rfl, rfl, rfl⟩ := H
          go_wp2
          refine wp_loop_rounds 5 ?_
          rw [rounds_succ]
          go_wp2
          go_quiet (first | (go_at_call 26; first | exact quietD (lex_letter.calls (bt a0 i) false _ B0.out) | exact quietE (lex_letter.calls (bt a0 i) false _ B0.out)))
          go_wp2
          rw [rounds_succ]
          go_wp2
          go_quiet (first | (go_at_call 29; first | exact quietD (lex_digit.calls (bt a0 i) false _ B1.out) | exact quietE (lex_digit.calls (bt a0 i) false _ B1.out)))
          go_wp2
          rw [rounds_succ]
          go_wp2
          go_quiet (first | (go_at_call 33; first | exact quietD (lex_kinds_2.calls (bt a0 i) false _ B2.out) | exact quietE (lex_kinds_2.calls (bt a0 i) false _ B2.out)))
          go_wp2
          rw [rounds_succ]
          go_wp2
          go_quiet (first | (go_at_call 37; first | exact quietD (lex_kinds_4.calls (bt a0 i) false _ B3.out) | exact quietE (lex_kinds_4.calls (bt a0 i) false _ B3.out)))
          go_wp2
          rw [rounds_succ]
          go_wp2
          rw [Exit.noGoto_ret]
          go_ret3
          exact ⟨_, rfl, Kd.R_nil _ _ _ _ _, (by repeat (first | (with_reducible first | exact HB.out | apply zb | apply zn | apply zd) | exact HB.out))⟩
     ·rw [if_neg c5] at H; cases H
    ·rw [if_neg c4] at H
     have c4b0 : decide (x7 < (a0.size : Int)) = false := decide_eq_false c4
     clear c4
     simp only [Option.some.injEq, Prod.mk.injEq] at H
     obtain ⟨rfl, rfl, rfl⟩ := H
     go_wp2
     rw [Exit.noGoto_ret]
     go_ret3
     exact ⟨_, rfl, Kd.R_mono HO.out (fun _ _ => trivial), HB.out⟩

end Go.Proofs.YtpemgladmnbfhaaDoor.QL
