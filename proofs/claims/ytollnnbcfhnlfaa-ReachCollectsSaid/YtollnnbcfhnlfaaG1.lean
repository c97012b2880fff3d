/- reach, part G1 of the hand texts (Ob, Ne, Fo, We, Op, Wk, L1, L2): what each part says stands at its head. -/
import Derived.Test.YtollnnbcfhnlfaaQRx0
import Derived.Deep.RegionLaw
/- reach: a value's object, walked: at any graph that lies behind a pointer. -/
set_option linter.unusedVariables false
set_option linter.unusedSimpArgs false
namespace Go.Proofs.Ytollnnbcfhnlfaa.Rg
open Go.RowKit Go.Proofs.Ytollnnbcfhnlfaa.QR Go.Proofs.YtollnnbcfhnlfaaW.PrintWords Go.Proofs.YtollnnbcfhnlfaaW.PrintLast Go.Proofs.YtollnnbcfhnlfaaW.PrintMore
def objF (th : List S43) (t n : Int) : Int := if t < 4 ∨ 9 < t ∨ n < 1 ∨ (th.length : Int) < n ∨ (rd_T43 th (n - 1)).f0 ≠ t then 0 else n
theorem cell_lt {w : World} {p : Addr} {u : Value} (hb : w.cell? p = some u) : p.block < w.heap.size := by
 unfold World.cell? at hb
 split at hb
 ·rename_i q; exact (Array.getElem?_eq_some_iff.1 q).1
 ·cases hb
set_option maxHeartbeats 4000000 in
set_option maxRecDepth 100000 in
theorem object_calls (w : World) (g : Nat) (A0 : Option Addr) (c0 : Nat) (th : List S43) (hg : w.cell? ⟨g, 0, none⟩ = some (.slice A0 th.length c0)) (hC : Kd.C k43 w A0 th.length th) (t n : Int) (hm : th.length ≤ 1000000) :
  Calls Try.prog 33 #[.pointer (some ⟨g, 0, none⟩), .agg #[.int .i64 t, .int .i64 n]] w fun e w' => e = .returned (.int .i64 (objF th t n)) ∧ Below w.heap.size w w' := by
 have HB := (Below.refl w.heap.size w).alloc (Nat.le_refl _) (.cells #[.int .i64 t, .int .i64 n] 40)
 have hg1 := (HB.cell (p := ⟨g, 0, none⟩) (cell_lt hg)).trans hg
 have fin : ∀ m, Below w.heap.size w ((w.alloc (.cells #[.int .i64 t, .int .i64 n] 40)).drewN m) := fun m => pw_below_drewN HB m
 by_cases h1 : t < 4
 ·have e : objF th t n = 0 := if_pos (.inl h1)
  rw [e]
  have b1 : decide (t < 4) = true := decide_eq_true h1
  go_enter Try.func33, Try.ntmps33
  go_wp2
  repeat (go_quiet (fail); try go_wp2)
  go_ret
  exact ⟨rfl, fin _⟩
 have b1 : decide (t < 4) = false := decide_eq_false h1
 by_cases h2 : 9 < t
 ·have e : objF th t n = 0 := if_pos (.inr (.inl h2))
  rw [e]
  have b2 : decide (9 < t) = true := decide_eq_true h2
  go_enter Try.func33, Try.ntmps33
  go_wp2
  repeat (go_quiet (fail); try go_wp2)
  go_ret
  exact ⟨rfl, fin _⟩
 have b2 : decide (9 < t) = false := decide_eq_false h2
 by_cases h3 : n < 1
 ·have e : objF th t n = 0 := if_pos (.inr (.inr (.inl h3)))
  rw [e]
  have b3 : decide (n < 1) = true := decide_eq_true h3
  go_enter Try.func33, Try.ntmps33
  go_wp2
  repeat (go_quiet (fail); try go_wp2)
  go_ret
  exact ⟨rfl, fin _⟩
 have b3 : decide (n < 1) = false := decide_eq_false h3
 by_cases h4 : (th.length : Int) < n
 ·have e : objF th t n = 0 := if_pos (.inr (.inr (.inr (.inl h4))))
  rw [e]
  have b4 : decide ((th.length : Int) < n) = true := decide_eq_true h4
  go_enter Try.func33, Try.ntmps33
  go_wp2
  repeat (go_quiet (fail); try go_wp2)
  go_ret
  exact ⟨rfl, fin _⟩
 have b4 : decide ((th.length : Int) < n) = false := decide_eq_false h4
 have ew : wrap64 (n - 1) = n - 1 := by unfold wrap64; omega
 obtain ⟨ji, hji⟩ : ∃ j : Int, wrap64 (n - 1) = j := ⟨_, rfl⟩
 have ew2 : IntKind.i64.wrap (n - 1) = ji := (i64_w _).trans hji
 have ej := Aside0.mk (ew.symm.trans hji)
 clear ew hm
 have p0 : 0 ≤ ji := by have := ej.out; omega
 have q0 : ji < (th.length : Int) := by have := ej.out; omega
 obtain ⟨ad, A3, c3, rfl, x0, x1, x2, x3, x4, l3, k3⟩ := at_T43 (Kd.C_below hC HB) ji p0 q0
 replace p0 := eq_true p0
 replace q0 := eq_true q0
 by_cases h5 : (rd_T43 th ji).f0 = t
 ·have e : objF th t n = n := by
   refine if_neg ?_
   rw [ej.out]
   rintro (h | h | h | h | h)
   ·exact h1 h
   ·exact h2 h
   ·exact h3 h
   ·exact h4 h
   ·exact h h5
  rw [e]
  have b5 : ((rd_T43 th ji).f0 != t) = false := bne_eq_false_iff_eq.mpr h5
  go_enter Try.func33, Try.ntmps33
  go_wp2
  repeat (go_quiet (fail); try go_wp2)
  go_ret
  exact ⟨rfl, fin _⟩
 ·have e : objF th t n = 0 := if_pos (.inr (.inr (.inr (.inr (by rw [ej.out]; exact h5)))))
  rw [e]
  have b5 : ((rd_T43 th ji).f0 != t) = true := bne_iff_ne.mpr h5
  go_enter Try.func33, Try.ntmps33
  go_wp2
  repeat (go_quiet (fail); try go_wp2)
  go_ret
  exact ⟨rfl, fin _⟩
end Go.Proofs.Ytollnnbcfhnlfaa.Rg

/- reach: need, walked. -/
set_option linter.unusedVariables false
set_option linter.unusedSimpArgs false
namespace Go.Proofs.Ytollnnbcfhnlfaa.Rg
open Go.RowKit Go.Proofs.Ytollnnbcfhnlfaa.QR Go.Proofs.YtollnnbcfhnlfaaW.PrintWords Go.Proofs.YtollnnbcfhnlfaaW.PrintLast Go.Proofs.YtollnnbcfhnlfaaW.PrintMore
/-- a graph that is asked: behind the pointer g; what was handed in is read at w0, what is needed and to do are rows of its own -/
structure GS (w0 W : World) (g : Nat) (A0 : Option Addr) (c0 : Nat) (th : List S43) (A1 : Option Addr) (c1 : Nat) (rt : List S40) (nv : Value) (nd : List Bool) (tv : Value) (td : List Int) : Prop where
 blk : W.heap[g]? = some (.cells #[.slice A0 th.length c0, .slice A1 rt.length c1, nv, tv] 58 (0, 0))
 ge : w0.heap.size ≤ g
 cth : Kd.C k43 w0 A0 th.length th
 crt : Kd.C k40 w0 A1 rt.length rt
 n : Kd.R Kd.bool 4 W w0.heap.size (fun _ => True) nv nd
 t : Kd.R (Kd.int .i64) 3 W w0.heap.size (fun _ => True) tv td
 b : Below w0.heap.size w0 W
theorem GS.lt {w0 W : World} {g : Nat} {A0 : Option Addr} {c0 : Nat} {th : List S43} {A1 : Option Addr} {c1 : Nat} {rt : List S40} {nv : Value} {nd : List Bool} {tv : Value} {td : List Int} (h : GS w0 W g A0 c0 th A1 c1 rt nv nd tv td) : g < W.heap.size := (Array.getElem?_eq_some_iff.1 h.blk).1
theorem GS.below {w0 W W' : World} {g : Nat} {A0 : Option Addr} {c0 : Nat} {th : List S43} {A1 : Option Addr} {c1 : Nat} {rt : List S40} {nv : Value} {nd : List Bool} {tv : Value} {td : List Int} (h : GS w0 W g A0 c0 th A1 c1 rt nv nd tv td) (hb : Below W.heap.size W W') : GS w0 W' g A0 c0 th A1 c1 rt nv nd tv td :=
 ⟨(hb.block g h.lt).trans h.blk, h.ge, h.cth, h.crt, Kd.R_below h.n hb, Kd.R_below h.t hb, below_step h.b hb⟩
theorem GS.ne {w0 W : World} {g gn : Nat} {A0 : Option Addr} {c0 : Nat} {th : List S43} {A1 : Option Addr} {c1 : Nat} {rt : List S40} {m cn : Nat} {nd : List Bool} {tv : Value} {td : List Int} (h : GS w0 W g A0 c0 th A1 c1 rt (.slice (some ⟨gn, 0, none⟩) m cn) nd tv td) : g ≠ gn := by
 have := Kd.R_ne h.n h.blk (by decide)
 intro e
 exact this (by rw [e]; rfl)
theorem GS.put {w0 W : World} {g gn : Nat} {A0 : Option Addr} {c0 : Nat} {th : List S43} {A1 : Option Addr} {c1 : Nat} {rt : List S40} {m cn : Nat} {nd : List Bool} {tv : Value} {td : List Int} (h : GS w0 W g A0 c0 th A1 c1 rt (.slice (some ⟨gn, 0, none⟩) m cn) nd tv td) (hg : w0.heap.size ≤ gn) (hc : ∃ cells, W.heap[gn]? = some (.cells cells 4 (0, 0))) (ji : Int) :
  GS w0 (W.setCell ⟨gn, ji.toNat, none⟩ (.bool true)) g A0 c0 th A1 c1 rt (.slice (some ⟨gn, 0, none⟩) m cn) (nd.set ji.toNat true) tv td := by
 obtain ⟨cells, hc⟩ := hc
 refine ⟨(Below.heap_setCell W ⟨gn, ji.toNat, none⟩ (.bool true) g h.ne).trans h.blk, h.ge, h.cth, h.crt, Kd.R_putn h.n ji true, Kd.R_set h.t hc (by decide) _ _, below_set h.b hg⟩
theorem GS.todo {w0 W W' : World} {g : Nat} {A0 : Option Addr} {c0 : Nat} {th : List S43} {A1 : Option Addr} {c1 : Nat} {rt : List S40} {nv : Value} {nd : List Bool} {tv tv' : Value} {td td' : List Int} (h : GS w0 W g A0 c0 th A1 c1 rt nv nd tv td) (hg : W.grownBy W' tv.ownBlock) (ho : Kd.R (Kd.int .i64) 3 W' w0.heap.size (fun _ => True) tv' td') (hb : Below w0.heap.size w0 W') :
  GS w0 (W'.setCell ⟨g, 3, none⟩ tv') g A0 c0 th A1 c1 rt nv nd tv' td' := by
 have hb' := blk_grown h.blk hg (Kd.R_ne h.t h.blk (by decide))
 have n1 : Kd.R Kd.bool 4 W w0.heap.size (fun k => some k ≠ tv.ownBlock) nv nd := Kd.R_mono (Kd.R_bound h.n) (fun k hk => by
  obtain ⟨_, _, _, q, hq, cells, hc⟩ := hk
  have hq4 : q = 4 := by
   rcases List.mem_cons.1 hq with z | z
   ·exact z
   ·exact absurd z (by show ¬ q ∈ ([] : List Nat); simp)
  subst hq4
  exact Kd.R_ne h.t hc (by decide))
 have n2 : Kd.R Kd.bool 4 W' w0.heap.size (fun _ => True) nv nd := Kd.R_mono (Kd.R_step n1 (fun k hk hlt => hg.block k hlt hk)) (fun _ _ => trivial)
 refine ⟨?_, h.ge, h.cth, h.crt, Kd.R_set n2 hb' (by decide) _ _, Kd.R_set ho hb' (by decide) _ _, below_set hb h.ge⟩
 simp [World.setCell, Array.getElem?_modify, hb']
/-- what need leaves -/
def needF (th : List S43) (nd : List Bool) (td : List Int) (t n : Int) : List Bool × List Int :=
 if 0 < objF th t n ∧ rdOf false nd (objF th t n - 1) = false then (nd.set (objF th t n - 1).toNat true, td ++ [objF th t n]) else (nd, td)
def NeedPost (w0 W W' : World) (g : Nat) (A0 : Option Addr) (c0 : Nat) (th : List S43) (A1 : Option Addr) (c1 : Nat) (rt : List S40) (nv tv : Value) (r : List Bool × List Int) : Prop :=
 ∃ tv', GS w0 W' g A0 c0 th A1 c1 rt nv r.1 tv' r.2 ∧ Kept W W' (fun k => k = g ∨ some k = nv.ownBlock ∨ some k = tv.ownBlock) ∧ (tv'.ownBlock = tv.ownBlock ∨ ∃ b, tv'.ownBlock = some b ∧ W.heap.size ≤ b)
theorem obj_bd (th : List S43) (t n : Int) : 0 ≤ objF th t n ∧ objF th t n ≤ th.length := by
 unfold objF
 split
 ·exact ⟨Int.le_refl _, by omega⟩
 ·rename_i h
  constructor
  ·refine Int.le_of_not_gt fun z => h (.inr (.inr (.inl (by omega))))
  ·exact Int.le_of_not_gt fun z => h (.inr (.inr (.inr (.inl z))))
theorem w64i_ {x : Int} (h : -9223372036854775808 ≤ x) (h' : x ≤ 9223372036854775807) : wrap64 x = x := by unfold wrap64; omega
set_option maxHeartbeats 4000000 in
set_option maxRecDepth 100000 in
theorem need_calls (w0 W : World) (g : Nat) (A0 : Option Addr) (c0 : Nat) (th : List S43) (A1 : Option Addr) (c1 : Nat) (rt : List S40) (nv : Value) (nd : List Bool) (tv : Value) (td : List Int)
  (hS : GS w0 W g A0 c0 th A1 c1 rt nv nd tv td) (hl : nd.length = th.length) (hm : th.length ≤ 1000000) (hb : td.length ≤ 1000000) (t n : Int) :
  Calls Try.prog 28 #[.pointer (some ⟨g, 0, none⟩), .agg #[.int .i64 t, .int .i64 n]] W fun e W' => e = .returned (.tuple #[]) ∧ NeedPost w0 W W' g A0 c0 th A1 c1 rt nv tv (needF th nd td t n) := by
 have HB1 := (Below.refl W.heap.size W).alloc (Nat.le_refl _) (.cells #[.int .i64 t, .int .i64 n] 40)
 have H1 := hS.below HB1
 have s1 : (W.alloc (.cells #[.int .i64 t, .int .i64 n] 40)).cell? ⟨g, 0, none⟩ = some (.slice A0 th.length c0) := blk_cell H1.blk 0
 have s2 : Kd.C k43 (W.alloc (.cells #[.int .i64 t, .int .i64 n] 40)) A0 th.length th := Kd.C_below H1.cth H1.b
 have obd := obj_bd th t n
 have same : ∀ W', Below W.heap.size W W' → NeedPost w0 W W' g A0 c0 th A1 c1 rt nv tv (nd, td) := fun W' hb => ⟨tv, hS.below hb, Kept.of_below hb _, .inl rfl⟩
 by_cases hp : 0 < objF th t n
 ·obtain ⟨h, hh⟩ : ∃ h, objF th t n = h := ⟨_, rfl⟩
  rw [hh] at hp obd
  obtain ⟨ji, hji⟩ : ∃ j : Int, wrap64 (h - 1) = j := ⟨_, rfl⟩
  have ew2 : IntKind.i64.wrap (h - 1) = ji := (i64_w _).trans hji
  have ej : h - 1 = ji := by
   rw [← hji]
   exact (w64i_ (by omega) (by omega)).symm
  have p0 : 0 ≤ ji := by omega
  have q0 : ji < (nd.length : Int) := by omega
  obtain ⟨gn, cn, rfl, gnb, gnl, cells, hcells⟩ := Kd.R_form hS.n (by omega)
  have b1 : decide (0 < h) = true := decide_eq_true hp
  have OC := Aside0.mk (object_calls _ g A0 c0 th s1 s2 t n hm)
  rw [hh] at OC
  have SM := Aside0.mk same
  have HA := Aside0.mk HB1
  have HS := Aside0.mk hS
  have P0 := Aside0.mk p0
  have Q0 := Aside0.mk q0
  replace p0 := eq_true p0
  replace q0 := eq_true q0
  have EJ := Aside0.mk ej
  have HH := Aside0.mk hh
  have OB := Aside0.mk obd
  have HP := Aside0.mk hp
  have HL := Aside0.mk hl
  have CE : Aside0 (∃ cells, W.heap[gn]? = some (.cells cells 4 (0, 0))) := ⟨⟨cells, hcells⟩⟩
  have GN := Aside0.mk gnb
  clear s1 s2 same HB1 H1 hS hh obd hp ej hcells hl gnb
  by_cases hv : rdOf false nd ji = true
  ·have e : needF th nd td t n = (nd, td) := if_neg fun z => by
    rw [HH.out, EJ.out, hv] at z; cases z.2
   rw [e]
   go_enter Try.func28, Try.ntmps28
   go_wp2_with (first | (go_at_call 33; (with_reducible refine OC.out.mono ?_); rintro e w2 ⟨rfl, hb2⟩; have HA2 := Aside0.mk (below_step HA.out hb2); clear hb2; have H2 := Aside0.mk (HS.out.below HA2.out); have z2 : w2.cell? ⟨g, 2, none⟩ = some (.slice (some ⟨gn, 0, none⟩) nd.length cn) := blk_cell H2.out.blk 2; have hx := Kd.R_celln false H2.out.n ji P0.out Q0.out; rw [hv] at hx; have hx1 : w2.cell? ⟨gn, ji.toNat, none⟩ = some (.bool true) := hx.1; clear hx))
   repeat (go_quiet (fail); try go_wp2)
   go_end0
   exact ⟨rfl, SM.out _ HA2.out⟩
  ·have hv0 : rdOf false nd ji = false := by simpa using hv
   have e : needF th nd td t n = (nd.set ji.toNat true, td ++ [h]) := by
    unfold needF
    rw [HH.out, EJ.out, if_pos ⟨HP.out, hv0⟩]
   rw [e]
   have HV := Aside0.mk hv0
   clear hv
   go_enter Try.func28, Try.ntmps28
   go_wp2_with (first
    | (go_at_call 33; (with_reducible refine OC.out.mono ?_); rintro e w2 ⟨rfl, hb2⟩; have HA2 := Aside0.mk (below_step HA.out hb2); clear hb2; have H2 := Aside0.mk (HS.out.below HA2.out); have z2 : w2.cell? ⟨g, 2, none⟩ = some (.slice (some ⟨gn, 0, none⟩) nd.length cn) := blk_cell H2.out.blk 2; have hx := Kd.R_celln false H2.out.n ji P0.out Q0.out; rw [HV.out] at hx; have hx1 : w2.cell? ⟨gn, ji.toNat, none⟩ = some (.bool false) := hx.1; have hx2 := hx.2; clear hx) | ((with_reducible refine gate_store (t := 4) (p := 27) rfl ?_); refine store_event (t := 4) (p := 27) (v := ?vo) (w1 := (w2.setCell ⟨gn, ji.toNat, none⟩ (.bool true))) ?hg ?ho ?hn ?hr ?_; (case ho => rfl); (case hg => rfl); (case hn => rfl); (case hr => first | (go_simp; done) | (go_simp; rfl)); intro w3 hw; have H3 := Aside0.mk (show GS w0 w3 g A0 c0 th A1 c1 rt (.slice (some ⟨gn, 0, none⟩) nd.length cn) (nd.set ji.toNat true) tv td by rw [hw]; exact H2.out.put GN.out (by obtain ⟨cl, hc⟩ := CE.out; exact ⟨cl, (HA2.out.block gn gnl).trans hc⟩) ji); have z3 : w3.cell? ⟨g, 3, none⟩ = some tv := blk_cell H3.out.blk 3; have K3 := Aside0.mk (show Kept W w3 (fun k => k = g ∨ some k = (Value.slice (some ⟨gn, 0, none⟩) nd.length cn).ownBlock ∨ some k = tv.ownBlock) by rw [hw]; exact (Kept.of_below HA2.out _).setCell (.inl (.inr (.inl rfl))) _); clear hw) | ((with_reducible refine gate_builtin (b := .append) (xs := #[.tmp 32, .tmp 34]) rfl ?_); at_builtin; refine Kd.R_append (Kd.int .i64) (w0 := w0) w0.heap.size rfl (.tmp 32) (.tmp 34) 26 3 (.int .i64 0) 8 rfl Try.underlying26 info3 rfl (by decide) (by omega) tv td h [.int .i64 h] (fun _ => True) (fun _ => False) rfl rfl ?aP (fun _ hk => hk.elim) ?aF ?aO ?aB ?aS ?aL ?_; (case aP => exact rfl); (case aB => exact H3.out.b); (case aF => exact (fun _ _ => trivial)); (case aO => exact H3.out.t); (case aS => exact H3.out.b.size); (case aL => omega); intro v4 w4 ho hb4 hg4 hat4; obtain ⟨A4, c4, rfl⟩ := Kd.R_slice ho; have B4 := Aside0.mk (blk_grown H3.out.blk hg4 (Kd.R_ne H3.out.t H3.out.blk (by decide))); have z4 : w4.cell? ⟨g, 3, none⟩ = some tv := blk_cell B4.out 3; have f4 := blk_frozen B4.out 3; have HO4 := Aside0.mk ho; have HB4 := Aside0.mk hb4; have HG4 := Aside0.mk hg4; have HT4 := Aside0.mk hat4; clear ho hb4 hg4 hat4))
   repeat (go_quiet (first | ((with_reducible refine gate_store (t := 4) (p := 27) rfl ?_); refine store_event (t := 4) (p := 27) (v := ?vo) (w1 := (w2.setCell ⟨gn, ji.toNat, none⟩ (.bool true))) ?hg ?ho ?hn ?hr ?_; (case ho => rfl); (case hg => rfl); (case hn => rfl); (case hr => first | (go_simp; done) | (go_simp; rfl)); intro w3 hw; have H3 := Aside0.mk (show GS w0 w3 g A0 c0 th A1 c1 rt (.slice (some ⟨gn, 0, none⟩) nd.length cn) (nd.set ji.toNat true) tv td by rw [hw]; exact H2.out.put GN.out (by obtain ⟨cl, hc⟩ := CE.out; exact ⟨cl, (HA2.out.block gn gnl).trans hc⟩) ji); have z3 : w3.cell? ⟨g, 3, none⟩ = some tv := blk_cell H3.out.blk 3; have K3 := Aside0.mk (show Kept W w3 (fun k => k = g ∨ some k = (Value.slice (some ⟨gn, 0, none⟩) nd.length cn).ownBlock ∨ some k = tv.ownBlock) by rw [hw]; exact (Kept.of_below HA2.out _).setCell (.inl (.inr (.inl rfl))) _); clear hw) | ((with_reducible refine gate_builtin (b := .append) (xs := #[.tmp 32, .tmp 34]) rfl ?_); at_builtin; refine Kd.R_append (Kd.int .i64) (w0 := w0) w0.heap.size rfl (.tmp 32) (.tmp 34) 26 3 (.int .i64 0) 8 rfl Try.underlying26 info3 rfl (by decide) (by omega) tv td h [.int .i64 h] (fun _ => True) (fun _ => False) rfl rfl ?aP (fun _ hk => hk.elim) ?aF ?aO ?aB ?aS ?aL ?_; (case aP => exact rfl); (case aB => exact H3.out.b); (case aF => exact (fun _ _ => trivial)); (case aO => exact H3.out.t); (case aS => exact H3.out.b.size); (case aL => omega); intro v4 w4 ho hb4 hg4 hat4; obtain ⟨A4, c4, rfl⟩ := Kd.R_slice ho; have B4 := Aside0.mk (blk_grown H3.out.blk hg4 (Kd.R_ne H3.out.t H3.out.blk (by decide))); have z4 : w4.cell? ⟨g, 3, none⟩ = some tv := blk_cell B4.out 3; have f4 := blk_frozen B4.out 3; have HO4 := Aside0.mk ho; have HB4 := Aside0.mk hb4; have HG4 := Aside0.mk hg4; have HT4 := Aside0.mk hat4; clear ho hb4 hg4 hat4)); try go_wp2_with (first | ((with_reducible refine gate_store (t := 4) (p := 27) rfl ?_); refine store_event (t := 4) (p := 27) (v := ?vo) (w1 := (w2.setCell ⟨gn, ji.toNat, none⟩ (.bool true))) ?hg ?ho ?hn ?hr ?_; (case ho => rfl); (case hg => rfl); (case hn => rfl); (case hr => first | (go_simp; done) | (go_simp; rfl)); intro w3 hw; have H3 := Aside0.mk (show GS w0 w3 g A0 c0 th A1 c1 rt (.slice (some ⟨gn, 0, none⟩) nd.length cn) (nd.set ji.toNat true) tv td by rw [hw]; exact H2.out.put GN.out (by obtain ⟨cl, hc⟩ := CE.out; exact ⟨cl, (HA2.out.block gn gnl).trans hc⟩) ji); have z3 : w3.cell? ⟨g, 3, none⟩ = some tv := blk_cell H3.out.blk 3; have K3 := Aside0.mk (show Kept W w3 (fun k => k = g ∨ some k = (Value.slice (some ⟨gn, 0, none⟩) nd.length cn).ownBlock ∨ some k = tv.ownBlock) by rw [hw]; exact (Kept.of_below HA2.out _).setCell (.inl (.inr (.inl rfl))) _); clear hw) | ((with_reducible refine gate_builtin (b := .append) (xs := #[.tmp 32, .tmp 34]) rfl ?_); at_builtin; refine Kd.R_append (Kd.int .i64) (w0 := w0) w0.heap.size rfl (.tmp 32) (.tmp 34) 26 3 (.int .i64 0) 8 rfl Try.underlying26 info3 rfl (by decide) (by omega) tv td h [.int .i64 h] (fun _ => True) (fun _ => False) rfl rfl ?aP (fun _ hk => hk.elim) ?aF ?aO ?aB ?aS ?aL ?_; (case aP => exact rfl); (case aB => exact H3.out.b); (case aF => exact (fun _ _ => trivial)); (case aO => exact H3.out.t); (case aS => exact H3.out.b.size); (case aL => omega); intro v4 w4 ho hb4 hg4 hat4; obtain ⟨A4, c4, rfl⟩ := Kd.R_slice ho; have B4 := Aside0.mk (blk_grown H3.out.blk hg4 (Kd.R_ne H3.out.t H3.out.blk (by decide))); have z4 : w4.cell? ⟨g, 3, none⟩ = some tv := blk_cell B4.out 3; have f4 := blk_frozen B4.out 3; have HO4 := Aside0.mk ho; have HB4 := Aside0.mk hb4; have HG4 := Aside0.mk hg4; have HT4 := Aside0.mk hat4; clear ho hb4 hg4 hat4)))
   go_end0
   have el : (td ++ [h]).length = td.length + 1 := by simp
   have ho5 := HO4.out
   have ht5 := HT4.out
   rw [el] at ho5 ht5
   refine ⟨rfl, _, H3.out.todo HG4.out ho5 HB4.out, ?_, ?_⟩
   ·exact (Kept.of_grown HG4.out K3.out (fun k hk => .inl (.inr (.inr hk.symm)))).setCell (.inl (.inl rfl)) _
   ·rcases ht5 with z | ⟨b, z, y⟩
    ·exact .inl z
    ·exact .inr ⟨b, z, Nat.le_trans K3.out.1 y⟩
 ·have e : needF th nd td t n = (nd, td) := if_neg fun z => hp z.1
  rw [e]
  obtain ⟨h, hh⟩ : ∃ h, objF th t n = h := ⟨_, rfl⟩
  have b1 : decide (0 < h) = false := by rw [← hh]; exact decide_eq_false hp
  have OC := Aside0.mk (object_calls _ g A0 c0 th s1 s2 t n hm)
  rw [hh] at OC
  clear s1 s2
  have SM := Aside0.mk same
  have HA := Aside0.mk HB1
  clear same HB1 H1 hS hh obd hp e
  go_enter Try.func28, Try.ntmps28
  go_wp2_with (first | (go_at_call 33; (with_reducible refine OC.out.mono ?_); rintro e w2 ⟨rfl, hb2⟩; have HA2 := Aside0.mk (below_step HA.out hb2); clear hb2))
  repeat (go_quiet (fail); try go_wp2)
  go_end0
  exact ⟨rfl, SM.out _ HA2.out⟩
end Go.Proofs.Ytollnnbcfhnlfaa.Rg

/- reach: force, walked. -/
set_option linter.unusedVariables false
set_option linter.unusedSimpArgs false
namespace Go.Proofs.Ytollnnbcfhnlfaa.Rg
open Go.RowKit Go.Proofs.Ytollnnbcfhnlfaa.QR Go.Proofs.YtollnnbcfhnlfaaW.PrintWords Go.Proofs.YtollnnbcfhnlfaaW.PrintLast Go.Proofs.YtollnnbcfhnlfaaW.PrintMore
/-- what force leaves -/
def forceF (nd : List Bool) (td : List Int) (h : Int) : List Bool × List Int :=
 if rdOf false nd (h - 1) = false then (nd.set (h - 1).toNat true, td ++ [h]) else (nd, td)
set_option maxHeartbeats 4000000 in
set_option maxRecDepth 100000 in
theorem force_calls (w0 W : World) (g : Nat) (A0 : Option Addr) (c0 : Nat) (th : List S43) (A1 : Option Addr) (c1 : Nat) (rt : List S40) (nv : Value) (nd : List Bool) (tv : Value) (td : List Int)
  (hS : GS w0 W g A0 c0 th A1 c1 rt nv nd tv td) (hm : nd.length ≤ 1000000) (hb : td.length ≤ 1000000) (h : Int) (hp : 1 ≤ h) (hq : h ≤ nd.length) :
  Calls Try.prog 29 #[.pointer (some ⟨g, 0, none⟩), .int .i64 h] W fun e W' => e = .returned (.tuple #[]) ∧ NeedPost w0 W W' g A0 c0 th A1 c1 rt nv tv (forceF nd td h) := by
 obtain ⟨ji, hji⟩ : ∃ j : Int, wrap64 (h - 1) = j := ⟨_, rfl⟩
 have ew2 : IntKind.i64.wrap (h - 1) = ji := (i64_w _).trans hji
 have ej : h - 1 = ji := by
  rw [← hji]
  exact (w64i_ (by omega) (by omega)).symm
 have p0 : 0 ≤ ji := by omega
 have q0 : ji < (nd.length : Int) := by omega
 obtain ⟨gn, cn, rfl, gnb, gnl, cells, hcells⟩ := Kd.R_form hS.n (by omega)
 have HS := Aside0.mk hS
 have z2 : W.cell? ⟨g, 2, none⟩ = some (.slice (some ⟨gn, 0, none⟩) nd.length cn) := blk_cell hS.blk 2
 have hx := Kd.R_celln false hS.n ji p0 q0
 have CE : Aside0 (∃ cells, W.heap[gn]? = some (.cells cells 4 (0, 0))) := ⟨⟨cells, hcells⟩⟩
 have GN := Aside0.mk gnb
 replace p0 := eq_true p0
 replace q0 := eq_true q0
 have EJ := Aside0.mk ej
 clear hS ej hcells gnb hp hq hm
 by_cases hv : rdOf false nd ji = true
 ·have e : forceF nd td h = (nd, td) := if_neg fun z => by
   rw [EJ.out, hv] at z; cases z
  rw [e]
  rw [hv] at hx
  have hx1 : W.cell? ⟨gn, ji.toNat, none⟩ = some (.bool true) := hx.1
  go_enter Try.func29, Try.ntmps29
  go_wp2
  repeat (go_quiet (fail); try go_wp2)
  go_end0
  exact ⟨rfl, tv, HS.out, Kept.refl _ _, .inl rfl⟩
 ·have hv0 : rdOf false nd ji = false := by simpa using hv
  have e : forceF nd td h = (nd.set ji.toNat true, td ++ [h]) := by
   unfold forceF
   rw [EJ.out, if_pos hv0]
  rw [e]
  rw [hv0] at hx
  have hx1 : W.cell? ⟨gn, ji.toNat, none⟩ = some (.bool false) := hx.1
  have hx2 := hx.2
  clear hv hx
  go_enter Try.func29, Try.ntmps29
  go_wp2_with (first
   | ((with_reducible refine gate_store (t := 4) (p := 19) rfl ?_); refine store_event (t := 4) (p := 19) (v := ?vo) (w1 := (W.setCell ⟨gn, ji.toNat, none⟩ (.bool true))) ?hg ?ho ?hn ?hr ?_; (case ho => rfl); (case hg => rfl); (case hn => rfl); (case hr => first | (go_simp; done) | (go_simp; rfl)); intro w3 hw; have H3 := Aside0.mk (show GS w0 w3 g A0 c0 th A1 c1 rt (.slice (some ⟨gn, 0, none⟩) nd.length cn) (nd.set ji.toNat true) tv td by rw [hw]; exact HS.out.put GN.out CE.out ji); have z3 : w3.cell? ⟨g, 3, none⟩ = some tv := blk_cell H3.out.blk 3; have K3 := Aside0.mk (show Kept W w3 (fun k => k = g ∨ some k = (Value.slice (some ⟨gn, 0, none⟩) nd.length cn).ownBlock ∨ some k = tv.ownBlock) by rw [hw]; exact (Kept.refl W _).setCell (.inl (.inr (.inl rfl))) _); clear hw)
   | ((with_reducible refine gate_builtin (b := .append) (xs := #[.tmp 24, .tmp 26]) rfl ?_); at_builtin; refine Kd.R_append (Kd.int .i64) (w0 := w0) w0.heap.size rfl (.tmp 24) (.tmp 26) 26 3 (.int .i64 0) 8 rfl Try.underlying26 info3 rfl (by decide) (by omega) tv td h [.int .i64 h] (fun _ => True) (fun _ => False) rfl rfl ?aP (fun _ hk => hk.elim) ?aF ?aO ?aB ?aS ?aL ?_; (case aP => exact rfl); (case aB => exact H3.out.b); (case aF => exact (fun _ _ => trivial)); (case aO => exact H3.out.t); (case aS => exact H3.out.b.size); (case aL => omega); intro v4 w4 ho hb4 hg4 hat4; obtain ⟨A4, c4, rfl⟩ := Kd.R_slice ho; have B4 := Aside0.mk (blk_grown H3.out.blk hg4 (Kd.R_ne H3.out.t H3.out.blk (by decide))); have z4 : w4.cell? ⟨g, 3, none⟩ = some tv := blk_cell B4.out 3; have f4 := blk_frozen B4.out 3; have HO4 := Aside0.mk ho; have HB4 := Aside0.mk hb4; have HG4 := Aside0.mk hg4; have HT4 := Aside0.mk hat4; clear ho hb4 hg4 hat4))
  go_end0
  have el : (td ++ [h]).length = td.length + 1 := by simp
  have ho5 := HO4.out
  have ht5 := HT4.out
  rw [el] at ho5 ht5
  refine ⟨rfl, _, H3.out.todo HG4.out ho5 HB4.out, ?_, ?_⟩
  ·exact (Kept.of_grown HG4.out K3.out (fun k hk => .inl (.inr (.inr hk.symm)))).setCell (.inl (.inl rfl)) _
  ·rcases ht5 with z | ⟨b, z, y⟩
   ·exact .inl z
   ·exact .inr ⟨b, z, Nat.le_trans K3.out.1 y⟩
end Go.Proofs.Ytollnnbcfhnlfaa.Rg

/- reach: weakly, walked. -/
set_option linter.unusedVariables false
set_option linter.unusedSimpArgs false
namespace Go.Proofs.Ytollnnbcfhnlfaa.Rg
open Go.RowKit Go.Proofs.Ytollnnbcfhnlfaa.QR Go.Proofs.YtollnnbcfhnlfaaW.PrintWords Go.Proofs.YtollnnbcfhnlfaaW.PrintLast Go.Proofs.YtollnnbcfhnlfaaW.PrintMore
def weaklyF (th : List S43) (t n : Int) : Bool := t != 4 && decide (0 < objF th t n)
set_option maxHeartbeats 4000000 in
set_option maxRecDepth 100000 in
theorem weakly_calls (w : World) (g : Nat) (A0 : Option Addr) (c0 : Nat) (th : List S43) (hg : w.cell? ⟨g, 0, none⟩ = some (.slice A0 th.length c0)) (hC : Kd.C k43 w A0 th.length th) (t n : Int) (hm : th.length ≤ 1000000) :
  Calls Try.prog 40 #[.pointer (some ⟨g, 0, none⟩), .agg #[.int .i64 t, .int .i64 n]] w fun e w' => e = .returned (.bool (weaklyF th t n)) ∧ Below w.heap.size w w' := by
 have HB := (Below.refl w.heap.size w).alloc (Nat.le_refl _) (.cells #[.int .i64 t, .int .i64 n] 40)
 have hg1 := (HB.cell (p := ⟨g, 0, none⟩) (cell_lt hg)).trans hg
 have OC := Aside0.mk (object_calls _ g A0 c0 th hg1 (Kd.C_below hC HB) t n hm)
 have HA := Aside0.mk HB
 clear hg1 HB
 by_cases h1 : t = 4
 ·subst h1
  have e : weaklyF th 4 n = false := rfl
  rw [e]
  go_enter Try.func40, Try.ntmps40
  go_wp2
  repeat (go_quiet (fail); try go_wp2)
  go_ret
  exact ⟨rfl, by first | exact HA.out | exact pw_below_drewN HA.out _⟩
 ·have b1 : (t != 4) = true := bne_iff_ne.mpr h1
  have e : weaklyF th t n = decide (0 < objF th t n) := by unfold weaklyF; rw [b1, Bool.true_and]
  rw [e]
  go_enter Try.func40, Try.ntmps40
  go_wp2_with (first | (go_at_call 33; (with_reducible refine OC.out.mono ?_); rintro e w2 ⟨rfl, hb2⟩; have HA2 := Aside0.mk (below_step HA.out hb2); clear hb2))
  repeat (go_quiet (first | (go_at_call 33; (with_reducible refine OC.out.mono ?_); rintro e w2 ⟨rfl, hb2⟩; have HA2 := Aside0.mk (below_step HA.out hb2); clear hb2)); try go_wp2)
  go_ret
  exact ⟨rfl, by first | exact HA2.out | exact pw_below_drewN HA2.out _⟩
end Go.Proofs.Ytollnnbcfhnlfaa.Rg

/- reach: open, walked. -/
set_option linter.unusedVariables false
set_option linter.unusedSimpArgs false
namespace Go.Proofs.Ytollnnbcfhnlfaa.Rg
open Go.RowKit Go.Proofs.Ytollnnbcfhnlfaa.QR Go.Proofs.YtollnnbcfhnlfaaW.PrintWords Go.Proofs.YtollnnbcfhnlfaaW.PrintLast Go.Proofs.YtollnnbcfhnlfaaW.PrintMore
theorem alloc_at (w : World) (o : Obj) : (w.alloc o).heap[w.heap.size]? = some o := Array.getElem?_push_size
set_option maxHeartbeats 4000000 in
set_option maxRecDepth 100000 in
theorem open_calls (W : World) (A0 : Option Addr) (c0 : Nat) (th : List S43) (A1 : Option Addr) (c1 : Nat) (rt : List S40) (h0 : Kd.C k43 W A0 th.length th) (h1 : Kd.C k40 W A1 rt.length rt) (hm : th.length ≤ 1000000) :
  Calls Try.prog 27 #[.agg #[.slice A0 th.length c0, .slice A1 rt.length c1]] W fun e W' => ∃ g nv, e = .returned (.pointer (some ⟨g, 0, none⟩)) ∧ GS W W' g A0 c0 th A1 c1 rt nv (List.replicate th.length false) (.slice none 0 0) [] := by
 have H0 := Aside0.mk h0
 have H1 := Aside0.mk h1
 have HB := Aside0.mk ((Below.refl W.heap.size W).alloc (Nat.le_refl _) (.cells #[.slice A0 th.length c0, .slice A1 rt.length c1] 25))
 clear h0 h1
 go_enter Try.func27, Try.ntmps27
 go_wp2
 have BKz := (alloc_at W (.cells #[.slice A0 th.length c0, .slice A1 rt.length c1] 25))
 clear BKz
 have hmk : ∀ w : World, (Instr.makeSlice 30 (.int .i64 (th.length : Int)) (.int .i64 (th.length : Int))).run Try.prog w = .ok (.slice (some ⟨w.heap.size, 0, none⟩) th.length th.length) (w.alloc (.cells (madeCells (Value.bool false).cells (th.length * 1)) 4)) := by
  intro w
  obtain ⟨i0, hi, hzz⟩ := Option.map_eq_some_iff.1 info4
  simp only [Prod.mk.injEq] at hzz
  obtain ⟨hz0, hz1, hz2⟩ := hzz
  have hr := run_make (P := Try.prog) w 30 4 i0 (.bool false) Try.underlying30 hi hz0 .i64 .i64 (th.length : Int) (th.length : Int) (by omega) (by omega) (by rw [hz2]; omega) (by omega)
  simp only [Int.toNat_natCast] at hr
  rw [hz1] at hr
  exact hr
 go_region
 go_wp2
 go_ret
 have hsz2 : (W.alloc (.cells #[.slice A0 th.length c0, .slice A1 rt.length c1] 25)).heap.size = W.heap.size + 1 := by simp
 have B2 := HB.out.alloc (by rw [hsz2]; omega) (.cells (madeCells #[.bool false] th.length) 4)
 have hsz3 : ((W.alloc (.cells #[.slice A0 th.length c0, .slice A1 rt.length c1] 25)).alloc (.cells (madeCells #[.bool false] th.length) 4)).heap.size = W.heap.size + 1 + 1 := by simp
 have b3 := alloc_at ((W.alloc (.cells #[.slice A0 th.length c0, .slice A1 rt.length c1] 25)).alloc (.cells (madeCells #[.bool false] th.length) 4)) (.cells #[.slice A0 th.length c0, .slice A1 rt.length c1, .slice (some ⟨W.heap.size + 1, 0, none⟩) th.length th.length, .slice none 0 0] 58)
 rw [hsz3] at b3
 have hR : Kd.R Kd.bool 4 ((W.alloc (.cells #[.slice A0 th.length c0, .slice A1 rt.length c1] 25)).alloc (.cells (madeCells #[.bool false] th.length) 4)) W.heap.size (fun _ => True) (.slice (some ⟨W.heap.size + 1, 0, none⟩) th.length th.length) (List.replicate th.length false) := by
  have hml : maxLen = 9223372036854775807 := by decide
  have b2 := alloc_at (W.alloc (.cells #[.slice A0 th.length c0, .slice A1 rt.length c1] 25)) (.cells (madeCells #[.bool false] th.length) 4)
  rw [hsz2] at b2
  refine ⟨fun _ _ => trivial, (madeCells #[.bool false] th.length).toList, ⟨by simp [size_madeCells]; exact (Nat.mul_one _).symm, .inr ⟨W.heap.size + 1, th.length, madeCells #[.bool false] th.length, by simp, by omega, b2, by simp, by omega, ?_, ?_⟩⟩, ?_⟩
  ·rw [size_madeCells]; exact (Nat.mul_one _).symm
  ·rw [List.take_of_length_le]
   simp [size_madeCells]
   exact Nat.le_of_eq (Nat.mul_one _).symm
  ·have := Kd.reps_made (R := Kd.bool.M ((W.alloc (.cells #[.slice A0 th.length c0, .slice A1 rt.length c1] 25)).alloc (.cells (madeCells #[.bool false] th.length) 4)) W.heap.size (fun k => True ∧ some k ≠ (Value.slice (some ⟨W.heap.size + 1, 0, none⟩) th.length th.length).ownBlock)) (z := .bool false) (size := 1) (z0 := false) rfl (by decide) rfl th.length
   rw [Nat.mul_one] at this
   exact this
 refine ⟨_, _, rfl, b3, by omega, H0.out, H1.out, ?_, Kd.R_nil _ _ _ _ _, ?_⟩
 ·exact Kd.R_drew (Kd.R_alloc hR _)
 ·exact below_drew (B2.alloc (by rw [hsz3]; omega) _)
end Go.Proofs.Ytollnnbcfhnlfaa.Rg

/- reach: weak, walked. -/
set_option linter.unusedVariables false
set_option linter.unusedSimpArgs false
namespace Go.Proofs.Ytollnnbcfhnlfaa.Rg
open Go.RowKit Go.Proofs.Ytollnnbcfhnlfaa.QR Go.Proofs.YtollnnbcfhnlfaaW.PrintWords Go.Proofs.YtollnnbcfhnlfaaW.PrintLast Go.Proofs.YtollnnbcfhnlfaaW.PrintMore
def weakF (kind weak : Int) : Int := if kind ≠ 5 ∨ weak < 0 ∨ 3 < weak then 0 else weak
set_option maxHeartbeats 4000000 in
set_option maxRecDepth 100000 in
theorem weak_calls (w : World) (kind weak arr fin : Int) (sv : Value) (hs : sv.oneCell' = true) (A : Option Addr) (n c : Nat) (hv : sv = .slice A n c) :
  Calls Try.prog 37 #[.agg #[.int .i64 kind, .int .i64 weak, .int .i64 arr, sv, .int .i64 fin]] w fun e w' => e = .returned (.int .i64 (weakF kind weak)) ∧ Below w.heap.size w w' := by
 subst hv
 have HB := Aside0.mk ((Below.refl w.heap.size w).alloc (Nat.le_refl _) (.cells #[.int .i64 kind, .int .i64 weak, .int .i64 arr, .slice A n c, .int .i64 fin] 43))
 have fini : ∀ m, Below w.heap.size w ((w.alloc (.cells #[.int .i64 kind, .int .i64 weak, .int .i64 arr, .slice A n c, .int .i64 fin] 43)).drewN m) := fun m => pw_below_drewN HB.out m
 by_cases h1 : kind = 5
 ·have b1 : (kind != 5) = false := bne_eq_false_iff_eq.mpr h1
  by_cases h2 : weak < 0
  ·have b2 : decide (weak < 0) = true := decide_eq_true h2
   rw [show weakF kind weak = 0 from if_pos (.inr (.inl h2))]
   clear h1
   go_enter Try.func37, Try.ntmps37
   go_wp2
   repeat (go_quiet (fail); try go_wp2)
   go_ret
   exact ⟨rfl, by first | exact HB.out | exact fini _⟩
  ·have b2 : decide (weak < 0) = false := decide_eq_false h2
   by_cases h3 : 3 < weak
   ·have b3 : decide (3 < weak) = true := decide_eq_true h3
    rw [show weakF kind weak = 0 from if_pos (.inr (.inr h3))]
    clear h1
    go_enter Try.func37, Try.ntmps37
    go_wp2
    repeat (go_quiet (fail); try go_wp2)
    go_ret
    exact ⟨rfl, by first | exact HB.out | exact fini _⟩
   ·have b3 : decide (3 < weak) = false := decide_eq_false h3
    rw [show weakF kind weak = weak from if_neg (by rintro (h | h | h); exact h h1; exact h2 h; exact h3 h)]
    clear h1
    go_enter Try.func37, Try.ntmps37
    go_wp2
    repeat (go_quiet (fail); try go_wp2)
    go_ret
    exact ⟨rfl, by first | exact HB.out | exact fini _⟩
 ·have b1 : (kind != 5) = true := bne_iff_ne.mpr h1
  rw [show weakF kind weak = 0 from if_pos (.inl h1)]
  clear h1
  go_enter Try.func37, Try.ntmps37
  go_wp2
  repeat (go_quiet (fail); try go_wp2)
  go_ret
  exact ⟨rfl, by first | exact HB.out | exact fini _⟩
end Go.Proofs.Ytollnnbcfhnlfaa.Rg

/- reach: lead's first closure (strings), walked. -/
set_option linter.unusedVariables false
set_option linter.unusedSimpArgs false
namespace Go.Proofs.Ytollnnbcfhnlfaa.Rg
open Go.RowKit Go.Proofs.Ytollnnbcfhnlfaa.QR Go.Proofs.YtollnnbcfhnlfaaW.PrintWords Go.Proofs.YtollnnbcfhnlfaaW.PrintLast Go.Proofs.YtollnnbcfhnlfaaW.PrintMore
theorem NeedPost.pre {w0 W W1 W2 : World} {g : Nat} {A0 : Option Addr} {c0 : Nat} {th : List S43} {A1 : Option Addr} {c1 : Nat} {rt : List S40} {nv tv : Value} {r : List Bool × List Int} (hb : Below W.heap.size W W1) (h : NeedPost w0 W1 W2 g A0 c0 th A1 c1 rt nv tv r) : NeedPost w0 W W2 g A0 c0 th A1 c1 rt nv tv r := by
 obtain ⟨tv', a, b, c⟩ := h
 refine ⟨tv', a, (Kept.of_below hb _).then_ b (fun k hk => .inl hk), ?_⟩
 rcases c with c | ⟨b, z, y⟩
 ·exact .inl c
 ·exact .inr ⟨b, z, Nat.le_trans hb.size y⟩
/-- what the closure leaves: texts alone are needed -/
def strF (th : List S43) (nd : List Bool) (td : List Int) (t n : Int) : List Bool × List Int := if t = 4 then needF th nd td t n else (nd, td)
set_option maxHeartbeats 4000000 in
set_option maxRecDepth 100000 in
theorem lead1_calls (w0 W : World) (g : Nat) (A0 : Option Addr) (c0 : Nat) (th : List S43) (A1 : Option Addr) (c1 : Nat) (rt : List S40) (nv : Value) (nd : List Bool) (tv : Value) (td : List Int)
  (hS : GS w0 W g A0 c0 th A1 c1 rt nv nd tv td) (hl : nd.length = th.length) (hm : th.length ≤ 1000000) (hb : td.length ≤ 1000000) (t n : Int)
  (gb : Nat) (hg : W.cell? ⟨gb, 0, none⟩ = some (.pointer (some ⟨g, 0, none⟩))) :
  Calls Try.prog 46 #[.agg #[.int .i64 t, .int .i64 n], .pointer (some ⟨gb, 0, none⟩)] W fun e W' => e = .returned (.tuple #[]) ∧ NeedPost w0 W W' g A0 c0 th A1 c1 rt nv tv (strF th nd td t n) := by
 have HB1 := (Below.refl W.heap.size W).alloc (Nat.le_refl _) (.cells #[.int .i64 t, .int .i64 n] 40)
 have hg1 := (HB1.cell (p := ⟨gb, 0, none⟩) (cell_lt hg)).trans hg
 have SM : ∀ W', Below W.heap.size W W' → NeedPost w0 W W' g A0 c0 th A1 c1 rt nv tv (nd, td) := fun W' hb => ⟨tv, hS.below hb, Kept.of_below hb _, .inl rfl⟩
 have NC := Aside0.mk (need_calls w0 _ g A0 c0 th A1 c1 rt nv nd tv td (hS.below HB1) hl hm hb t n)
 have HA := Aside0.mk HB1
 have SMA := Aside0.mk SM
 clear HB1 SM hS hl
 by_cases h1 : t = 4
 ·subst h1
  rw [show strF th nd td 4 n = needF th nd td 4 n from if_pos rfl]
  go_enter Try.func46, Try.ntmps46
  go_wp2_with (first | (go_at_call 28; (with_reducible refine NC.out.mono ?_); rintro e w2 ⟨rfl, hp2⟩; have HP2 := Aside0.mk hp2; clear hp2))
  repeat (go_quiet (fail); try go_wp2)
  go_end0
  exact ⟨rfl, HP2.out.pre HA.out⟩
 ·have b1 : (t == 4) = false := beq_eq_false_iff_ne.mpr h1
  rw [show strF th nd td t n = (nd, td) from if_neg h1]
  clear h1
  go_enter Try.func46, Try.ntmps46
  go_wp2
  repeat (go_quiet (fail); try go_wp2)
  go_end0
  exact ⟨rfl, SMA.out _ (by first | exact HA.out | exact pw_below_drewN HA.out _)⟩
end Go.Proofs.Ytollnnbcfhnlfaa.Rg

/- reach: lead's second closure, walked. -/
set_option linter.unusedVariables false
set_option linter.unusedSimpArgs false
namespace Go.Proofs.Ytollnnbcfhnlfaa.Rg
open Go.RowKit Go.Proofs.Ytollnnbcfhnlfaa.QR Go.Proofs.YtollnnbcfhnlfaaW.PrintWords Go.Proofs.YtollnnbcfhnlfaaW.PrintLast Go.Proofs.YtollnnbcfhnlfaaW.PrintMore
section
variable {w0 W W1 W2 : World} {g : Nat} {A0 : Option Addr} {c0 : Nat} {th : List S43} {A1 : Option Addr} {c1 : Nat} {rt : List S40} {nv tv : Value} {nd : List Bool} {td : List Int} {r r2 : List Bool × List Int}
theorem NeedPost.refl (hS : GS w0 W g A0 c0 th A1 c1 rt nv nd tv td) : NeedPost w0 W W g A0 c0 th A1 c1 rt nv tv (nd, td) := ⟨tv, hS, Kept.refl _ _, .inl rfl⟩
theorem NeedPost.post (h : NeedPost w0 W W1 g A0 c0 th A1 c1 rt nv tv r) (hb : Below W1.heap.size W1 W2) : NeedPost w0 W W2 g A0 c0 th A1 c1 rt nv tv r := by
 obtain ⟨tv', a, b, c⟩ := h
 exact ⟨tv', a.below hb, b.below hb, c⟩
/-- one call behind another -/
theorem NeedPost.on (h : NeedPost w0 W W1 g A0 c0 th A1 c1 rt nv tv r) (k : ∀ tv', GS w0 W1 g A0 c0 th A1 c1 rt nv r.1 tv' r.2 → NeedPost w0 W1 W2 g A0 c0 th A1 c1 rt nv tv' r2) : NeedPost w0 W W2 g A0 c0 th A1 c1 rt nv tv r2 := by
 obtain ⟨tv', a, b, c⟩ := h
 obtain ⟨tv2, a2, b2, c2⟩ := k tv' a
 refine ⟨tv2, a2, b.then_ b2 (fun k hk => ?_), ?_⟩
 ·rcases hk with z | z | z
  ·exact .inl (.inl z)
  ·exact .inl (.inr (.inl z))
  ·rcases c with y | ⟨q, y, x⟩
   ·exact .inl (.inr (.inr (z.trans y)))
   ·right
    have := Option.some.inj (z.trans y)
    omega
 ·rcases c2 with z | ⟨q, z, x⟩
  ·rcases c with y | ⟨q, y, x⟩
   ·exact .inl (z.trans y)
   ·exact .inr ⟨q, z.trans y, x⟩
  ·exact .inr ⟨q, z, Nat.le_trans b.1 x⟩
/-- what is neither the state nor a row of it stays -/
theorem NeedPost.keep (hS : GS w0 W g A0 c0 th A1 c1 rt nv nd tv td) (h : NeedPost w0 W W1 g A0 c0 th A1 c1 rt nv tv r) {k : Nat} {cs : Array Value} {T : TypeId} (hk : W.heap[k]? = some (.cells cs T (0, 0))) (h58 : T ≠ 58) (h4 : T ≠ 4) (h3 : T ≠ 3) : W1.heap[k]? = some (.cells cs T (0, 0)) := by
 obtain ⟨tv', a, b, c⟩ := h
 refine (b.2 k (blk_lt hk) ?_).trans hk
 rintro (z | z | z)
 ·subst z
  have := hS.blk.symm.trans hk
  simp at this
  exact h58 this.2.symm
 ·exact Kd.R_ne hS.n hk (Ne.symm h4) z
 ·exact Kd.R_ne hS.t hk (Ne.symm h3) z
/-- what lead's second closure captured -/
structure CapB (W : World) (g tb gb sb : Nat) (kind weak arr fin : Int) (A : Option Addr) (n c : Nat) : Prop where
 t : W.heap[tb]? = some (.cells #[.int .i64 kind, .int .i64 weak, .int .i64 arr, .slice A n c, .int .i64 fin] 43 (0, 0))
 g : W.heap[gb]? = some (.cells #[.pointer (some ⟨g, 0, none⟩)] 53 (0, 0))
 s : W.heap[sb]? = some (.cells #[.func (.func 46) #[] #[.pointer (some ⟨gb, 0, none⟩)]] 55 (0, 0))
variable {tb gb sb : Nat} {kind weak arr fin : Int} {A : Option Addr} {n c : Nat}
theorem CapB.below (h : CapB W g tb gb sb kind weak arr fin A n c) (hb : Below W.heap.size W W1) : CapB W1 g tb gb sb kind weak arr fin A n c := ⟨blk_below h.t hb, blk_below h.g hb, blk_below h.s hb⟩
theorem CapB.keep (hS : GS w0 W g A0 c0 th A1 c1 rt nv nd tv td) (h : CapB W g tb gb sb kind weak arr fin A n c) (k : NeedPost w0 W W1 g A0 c0 th A1 c1 rt nv tv r) : CapB W1 g tb gb sb kind weak arr fin A n c :=
 ⟨k.keep hS h.t (by decide) (by decide) (by decide), k.keep hS h.g (by decide) (by decide) (by decide), k.keep hS h.s (by decide) (by decide) (by decide)⟩
end

theorem NeedPost.open {w0 W W1 : World} {g : Nat} {A0 : Option Addr} {c0 : Nat} {th : List S43} {A1 : Option Addr} {c1 : Nat} {rt : List S40} {nv tv : Value} {r : List Bool × List Int} (h : NeedPost w0 W W1 g A0 c0 th A1 c1 rt nv tv r) : ∃ tv1, GS w0 W1 g A0 c0 th A1 c1 rt nv r.1 tv1 r.2 ∧ ∀ r2 W2, NeedPost w0 W1 W2 g A0 c0 th A1 c1 rt nv tv1 r2 → NeedPost w0 W W2 g A0 c0 th A1 c1 rt nv tv r2 := by
 obtain ⟨tv', a, b, c⟩ := h
 refine ⟨tv', a, fun r2 W2 k => ?_⟩
 obtain ⟨tv2, a2, b2, c2⟩ := k
 refine ⟨tv2, a2, b.then_ b2 (fun k hk => ?_), ?_⟩
 ·rcases hk with z | z | z
  ·exact .inl (.inl z)
  ·exact .inl (.inr (.inl z))
  ·rcases c with y | ⟨q, y, x⟩
   ·exact .inl (.inr (.inr (z.trans y)))
   ·right
    have := Option.some.inj (z.trans y)
    omega
 ·rcases c2 with z | ⟨q, z, x⟩
  ·rcases c with y | ⟨q, y, x⟩
   ·exact .inl (z.trans y)
   ·exact .inr ⟨q, z.trans y, x⟩
  ·exact .inr ⟨q, z, Nat.le_trans b.1 x⟩
/-- lengths and bounds of what is needed and of what is to do -/
structure Fine (th : List S43) (s : List Bool × List Int) : Prop where
 len : s.1.length = th.length
 sum : s.2.length + s.1.count false ≤ th.length
 bd : ∀ h ∈ s.2, 1 ≤ h ∧ h ≤ th.length
theorem count_set (l : List Bool) (i : Nat) (hi : i < l.length) (hf : l.getD i false = false) : (l.set i true).count false + 1 = l.count false := by
 induction l generalizing i with
 | nil => simp at hi
 | cons x l ih =>
  cases i with
  | zero => simp at hf; subst hf; simp
  | succ i =>
   simp only [List.length_cons, Nat.add_lt_add_iff_right] at hi
   have hf' : l.getD i false = false := by simpa using hf
   have := ih i hi hf'
   simp only [List.set_cons_succ, List.count_cons]
   omega
theorem Fine.push {th : List S43} {s : List Bool × List Int} (F : Fine th s) (h : Int) (h0 : 1 ≤ h) (h1 : h ≤ th.length) (hf : rdOf false s.1 (h - 1) = false) : Fine th (s.1.set (h - 1).toNat true, s.2 ++ [h]) := by
 refine ⟨by simp [F.len], ?_, ?_⟩
 ·have := count_set s.1 (h - 1).toNat (by rw [F.len]; omega) hf
  have := F.sum
  simp only [List.length_append, List.length_cons, List.length_nil]
  omega
 ·intro x hx
  rcases List.mem_append.1 hx with z | z
  ·exact F.bd x z
  ·simp at z; subst z; exact ⟨h0, h1⟩
theorem Fine.need {th : List S43} {s : List Bool × List Int} (F : Fine th s) (t n : Int) : Fine th (needF th s.1 s.2 t n) := by
 unfold needF
 split
 ·rename_i h
  have := obj_bd th t n
  exact F.push _ (by omega) this.2 h.2
 ·exact F
theorem Fine.str {th : List S43} {s : List Bool × List Int} (F : Fine th s) (t n : Int) : Fine th (strF th s.1 s.2 t n) := by
 unfold strF
 split
 ·exact F.need t n
 ·exact F
theorem Fine.force {th : List S43} {s : List Bool × List Int} (F : Fine th s) (h : Int) (h0 : 1 ≤ h) (h1 : h ≤ th.length) : Fine th (forceF s.1 s.2 h) := by
 unfold forceF
 split
 ·rename_i hf
  exact F.push h h0 h1 hf
 ·exact F
theorem Fine.le {th : List S43} {s : List Bool × List Int} (F : Fine th s) (hm : th.length ≤ 1000000) : s.2.length ≤ 1000000 := by have := F.sum; omega
def stepF (th : List S43) (kind weak : Int) (sl : List S40) (s : List Bool × List Int) (key value : Int) : List Bool × List Int :=
 if weakF kind weak = 1 then
  if key < 0 then needF th s.1 s.2 (rd_T40 sl value).f0 (rd_T40 sl value).f1
  else if weaklyF th (rd_T40 sl key).f0 (rd_T40 sl key).f1 = false ∨ rdOf false s.1 (objF th (rd_T40 sl key).f0 (rd_T40 sl key).f1 - 1) = true then
   needF th (needF th s.1 s.2 (rd_T40 sl key).f0 (rd_T40 sl key).f1).1 (needF th s.1 s.2 (rd_T40 sl key).f0 (rd_T40 sl key).f1).2 (rd_T40 sl value).f0 (rd_T40 sl value).f1
  else s
 else if weakF kind weak = 2 ∧ 0 ≤ key then
  strF th (needF th s.1 s.2 (rd_T40 sl key).f0 (rd_T40 sl key).f1).1 (needF th s.1 s.2 (rd_T40 sl key).f0 (rd_T40 sl key).f1).2 (rd_T40 sl value).f0 (rd_T40 sl value).f1
 else if 0 ≤ key then
  strF th (strF th s.1 s.2 (rd_T40 sl key).f0 (rd_T40 sl key).f1).1 (strF th s.1 s.2 (rd_T40 sl key).f0 (rd_T40 sl key).f1).2 (rd_T40 sl value).f0 (rd_T40 sl value).f1
 else strF th s.1 s.2 (rd_T40 sl value).f0 (rd_T40 sl value).f1

theorem Fine.step {th : List S43} {s : List Bool × List Int} (F : Fine th s) (kind weak : Int) (sl : List S40) (key value : Int) : Fine th (stepF th kind weak sl s key value) := by
 unfold stepF
 split
 ·split
  ·exact F.need _ _
  ·split
   ·exact (F.need _ _).need _ _
   ·exact F
 ·split
  ·exact (F.need _ _).str _ _
  ·split
   ·exact (F.str _ _).str _ _
   ·exact F.str _ _
/-- what is fixed in a walk of lead's second closure -/
structure LP where
 w0 : World
 W : World
 g : Nat
 A0 : Option Addr
 c0 : Nat
 th : List S43
 A1 : Option Addr
 c1 : Nat
 rt : List S40
 nv : Value
 tv : Value
 tb : Nat
 gb : Nat
 sb : Nat
 kind : Int
 weak : Int
 arr : Int
 fin : Int
 ad : Addr
 sl : List S40
 c : Nat
/-- the state in the midst of the walk -/
def LS (p : LP) (w : World) (bx : List (Nat × Int × Int)) (s : List Bool × List Int) : Prop :=
 ∃ tvc, GS p.w0 w p.g p.A0 p.c0 p.th p.A1 p.c1 p.rt p.nv s.1 tvc s.2 ∧ (∀ r W2, NeedPost p.w0 w W2 p.g p.A0 p.c0 p.th p.A1 p.c1 p.rt p.nv tvc r → NeedPost p.w0 p.W W2 p.g p.A0 p.c0 p.th p.A1 p.c1 p.rt p.nv p.tv r) ∧ CapB w p.g p.tb p.gb p.sb p.kind p.weak p.arr p.fin (some p.ad) p.sl.length p.c ∧ ∀ b ∈ bx, w.heap[b.1]? = some (.cells #[.int .i64 b.2.1, .int .i64 b.2.2] 40 (0, 0))
section
variable {p : LP} {w wx : World} {bx : List (Nat × Int × Int)} {s : List Bool × List Int}
theorem LS.start (hS : GS p.w0 p.W p.g p.A0 p.c0 p.th p.A1 p.c1 p.rt p.nv s.1 p.tv s.2) (hB : CapB p.W p.g p.tb p.gb p.sb p.kind p.weak p.arr p.fin (some p.ad) p.sl.length p.c) : LS p p.W [] s :=
 ⟨p.tv, hS, fun _ _ h => h, hB, fun _ h => nomatch h⟩
theorem LS.below (h : LS p w bx s) (hb : Below w.heap.size w wx) : LS p wx bx s := by
 obtain ⟨tvc, a, b, c, d⟩ := h
 exact ⟨tvc, a.below hb, fun r W2 k => b r W2 (k.pre hb), c.below hb, fun q hq => blk_below (d q hq) hb⟩
theorem LS.box (h : LS p w bx s) (a b : Int) : LS p (w.alloc (.cells #[.int .i64 a, .int .i64 b] 40)) ((w.heap.size, a, b) :: bx) s := by
 obtain ⟨tvc, x, y, z, d⟩ := h.below (below_alloc (Below.refl _ _) (.cells #[.int .i64 a, .int .i64 b] 40))
 refine ⟨tvc, x, y, z, fun q hq => ?_⟩
 rcases List.mem_cons.1 hq with e | e
 ·subst e; exact alloc_at _ _
 ·exact d q e
theorem LS.done (h : LS p w bx s) : NeedPost p.w0 p.W w p.g p.A0 p.c0 p.th p.A1 p.c1 p.rt p.nv p.tv s := by
 obtain ⟨tvc, x, y, z, d⟩ := h
 exact y _ _ (NeedPost.refl x)
theorem LS.cells (h : LS p w bx s) : w.cell? ⟨p.tb, 0, none⟩ = some (.int .i64 p.kind) ∧ w.cell? ⟨p.tb, 1, none⟩ = some (.int .i64 p.weak) ∧ w.cell? ⟨p.tb, 2, none⟩ = some (.int .i64 p.arr) ∧ w.cell? ⟨p.tb, 3, none⟩ = some (.slice (some p.ad) p.sl.length p.c) ∧ w.cell? ⟨p.tb, 4, none⟩ = some (.int .i64 p.fin) ∧ w.cell? ⟨p.gb, 0, none⟩ = some (.pointer (some ⟨p.g, 0, none⟩)) ∧ w.cell? ⟨p.sb, 0, none⟩ = some (.func (.func 46) #[] #[.pointer (some ⟨p.gb, 0, none⟩)]) := by
 obtain ⟨tvc, x, y, z, d⟩ := h
 exact ⟨blk_cell z.t 0, blk_cell z.t 1, blk_cell z.t 2, blk_cell z.t 3, blk_cell z.t 4, blk_cell z.g 0, blk_cell z.s 0⟩
theorem LS.boxed (h : LS p w bx s) {b : Nat} {x y : Int} (hb : (b, x, y) ∈ bx) : w.cell? ⟨b, 0, none⟩ = some (.int .i64 x) ∧ w.cell? ⟨b, 1, none⟩ = some (.int .i64 y) := by
 obtain ⟨tvc, _, _, _, d⟩ := h
 have := d _ hb
 exact ⟨blk_cell this 0, blk_cell this 1⟩
theorem LS.slot (h : LS p w bx s) (hC : Kd.C k40 p.w0 (some p.ad) p.sl.length p.sl) (i : Int) (h0 : 0 ≤ i) (h1 : i < p.sl.length) : w.cell? (p.ad.add (i.toNat * 2)) = some (.int .i64 (rd_T40 p.sl i).f0) ∧ w.cell? ⟨(p.ad.add (i.toNat * 2)).block, (p.ad.add (i.toNat * 2)).off + 1, none⟩ = some (.int .i64 (rd_T40 p.sl i).f1) := by
 obtain ⟨tvc, x, _⟩ := h
 obtain ⟨ad, e, p, q⟩ := at_T40 (Kd.C_below hC x.b) i h0 h1
 cases e
 exact ⟨p, q⟩
theorem LS.weak (h : LS p w bx s) (hb : Below w.heap.size w wx) : Calls Try.prog 37 #[.agg #[.int .i64 p.kind, .int .i64 p.weak, .int .i64 p.arr, .slice (some p.ad) p.sl.length p.c, .int .i64 p.fin]] wx fun e w' => e = .returned (.int .i64 (weakF p.kind p.weak)) ∧ LS p w' bx s :=
 (weak_calls _ p.kind p.weak p.arr p.fin _ rfl _ _ _ rfl).mono fun e w' ⟨e1, e2⟩ => ⟨e1, h.below (below_step hb e2)⟩
theorem LS.need (h : LS p w bx s) (hb : Below w.heap.size w wx) (F : Fine p.th s) (hm : p.th.length ≤ 1000000) (t n : Int) : Calls Try.prog 28 #[.pointer (some ⟨p.g, 0, none⟩), .agg #[.int .i64 t, .int .i64 n]] wx fun e w' => e = .returned (.tuple #[]) ∧ LS p w' bx (needF p.th s.1 s.2 t n) := by
 obtain ⟨tvc, x, y, z, d⟩ := h.below hb
 refine (need_calls p.w0 wx p.g p.A0 p.c0 p.th p.A1 p.c1 p.rt p.nv s.1 tvc s.2 x F.len hm (F.le hm) t n).mono fun e w' ⟨e1, e2⟩ => ⟨e1, ?_⟩
 obtain ⟨tv1, a, b⟩ := e2.open
 exact ⟨tv1, a, fun r W2 k => y r W2 (b r W2 k), z.keep x e2, fun q hq => e2.keep x (d q hq) (by decide) (by decide) (by decide)⟩
theorem LS.str (h : LS p w bx s) (hb : Below w.heap.size w wx) (F : Fine p.th s) (hm : p.th.length ≤ 1000000) (t n : Int) : Calls Try.prog 46 #[.agg #[.int .i64 t, .int .i64 n], .pointer (some ⟨p.gb, 0, none⟩)] wx fun e w' => e = .returned (.tuple #[]) ∧ LS p w' bx (strF p.th s.1 s.2 t n) := by
 obtain ⟨tvc, x, y, z, d⟩ := h.below hb
 refine (lead1_calls p.w0 wx p.g p.A0 p.c0 p.th p.A1 p.c1 p.rt p.nv s.1 tvc s.2 x F.len hm (F.le hm) t n p.gb (blk_cell z.g 0)).mono fun e w' ⟨e1, e2⟩ => ⟨e1, ?_⟩
 obtain ⟨tv1, a, b⟩ := e2.open
 exact ⟨tv1, a, fun r W2 k => y r W2 (b r W2 k), z.keep x e2, fun q hq => e2.keep x (d q hq) (by decide) (by decide) (by decide)⟩
theorem LS.object (h : LS p w bx s) (hb : Below w.heap.size w wx) (hm : p.th.length ≤ 1000000) (t n : Int) : Calls Try.prog 33 #[.pointer (some ⟨p.g, 0, none⟩), .agg #[.int .i64 t, .int .i64 n]] wx fun e w' => e = .returned (.int .i64 (objF p.th t n)) ∧ Below w.heap.size w w' := by
 obtain ⟨tvc, x, y, z, d⟩ := h
 have x1 := x.below hb
 exact (object_calls wx p.g p.A0 p.c0 p.th (blk_cell x1.blk 0) (Kd.C_below x1.cth x1.b) t n hm).mono fun e w' ⟨e1, e2⟩ => ⟨e1, below_step hb e2⟩
theorem LS.weakly (h : LS p w bx s) (hb : Below w.heap.size w wx) (hm : p.th.length ≤ 1000000) (t n : Int) : Calls Try.prog 40 #[.pointer (some ⟨p.g, 0, none⟩), .agg #[.int .i64 t, .int .i64 n]] wx fun e w' => e = .returned (.bool (weaklyF p.th t n)) ∧ Below w.heap.size w w' := by
 obtain ⟨tvc, x, y, z, d⟩ := h
 have x1 := x.below hb
 exact (weakly_calls wx p.g p.A0 p.c0 p.th (blk_cell x1.blk 0) (Kd.C_below x1.cth x1.b) t n hm).mono fun e w' ⟨e1, e2⟩ => ⟨e1, below_step hb e2⟩
theorem LS.needed (h : LS p w bx s) (F : Fine p.th s) (i : Int) (h0 : 0 ≤ i) (h1 : i < p.th.length) : ∃ gn cn, w.cell? ⟨p.g, 2, none⟩ = some (.slice (some ⟨gn, 0, none⟩) s.1.length cn) ∧ w.cell? ⟨gn, i.toNat, none⟩ = some (.bool (rdOf false s.1 i)) := by
 obtain ⟨tvc, x, y, z, d⟩ := h
 have hl := F.len
 obtain ⟨gn, cn, e, _⟩ := Kd.R_form x.n (by omega)
 have xb := blk_cell x.blk 2
 have xn := x.n
 rw [e] at xn
 have := Kd.R_celln false xn i h0 (by omega)
 refine ⟨gn, cn, ?_, this.1⟩
 exact (show w.cell? ⟨p.g, 2, none⟩ = some p.nv from xb).trans (by rw [e])
end
end Go.Proofs.Ytollnnbcfhnlfaa.Rg
