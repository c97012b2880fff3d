/- reach, part G3 of the hand texts (Le, Sq, Sp): what each part says stands at its head. -/
import Derived.Test.YtollnnbcfhnlfaaSh
import Derived.Test.YtollnnbcfhnlfaaG2
/- reach: lead, walked. -/
set_option linter.unusedVariables false
set_option linter.unusedSimpArgs false
namespace Go.Proofs.Ytollnnbcfhnlfaa.Rg
open Go.Proofs.Ytollnnbcfhnlfaa.Sh
open Go.RowKit Go.Proofs.Ytollnnbcfhnlfaa.QR Go.Proofs.YtollnnbcfhnlfaaW.PrintWords Go.Proofs.YtollnnbcfhnlfaaW.PrintLast Go.Proofs.YtollnnbcfhnlfaaW.PrintMore
theorem GL.weak {p : GP} {w wx : World} {kb : List KB} {s : List Bool × List Int} (h : GL p w kb s) (hb : Below w.heap.size w wx) (kind weak arr fin : Int) (A : Option Addr) (n c : Nat) : Calls Try.prog 37 #[.agg #[.int .i64 kind, .int .i64 weak, .int .i64 arr, .slice A n c, .int .i64 fin]] wx fun e w' => e = .returned (.int .i64 (weakF kind weak)) ∧ GL p w' kb s :=
 (weak_calls _ kind weak arr fin _ rfl _ _ _ rfl).mono fun e w' ⟨e1, e2⟩ => ⟨e1, h.below (below_step hb e2)⟩
theorem GL.slot {p : GP} {w : World} {kb : List KB} {s : List Bool × List Int} (h : GL p w kb s) {ad : Addr} {sl : List S40} (hC : Kd.C k40 p.w0 (some ad) sl.length sl) (i : Int) (h0 : 0 ≤ i) (h1 : i < sl.length) : w.cell? (ad.add (i.toNat * 2)) = some (.int .i64 (rd_T40 sl i).f0) ∧ w.cell? ⟨(ad.add (i.toNat * 2)).block, (ad.add (i.toNat * 2)).off + 1, none⟩ = some (.int .i64 (rd_T40 sl i).f1) := by
 obtain ⟨ad, e, p, q⟩ := at_T40 (Kd.C_below hC h.base) i h0 h1
 cases e
 exact ⟨p, q⟩
set_option maxHeartbeats 8000000 in
set_option maxRecDepth 100000 in
theorem lead_none (p : GP) (s : List Bool × List Int) (hS : GL p p.W [] s) (hm : p.th.length ≤ 1000000) (hsl : ∀ t ∈ p.th, t.f3.length ≤ 1000000) (h : Int) (h0 : 1 ≤ h) (h1 : h ≤ p.th.length) (hw : weakF (rd_T43 p.th (h - 1)).f0 (rd_T43 p.th (h - 1)).f1 = 0) :
  Calls Try.prog 43 #[.pointer (some ⟨p.g, 0, none⟩), .int .i64 h] p.W fun e W' => e = .returned (.tuple #[]) ∧ ∃ kb, GL p W' kb ((rd_T43 p.th (h - 1)).f3.foldl (fun s v => needF p.th s.1 s.2 v.f0 v.f1) s) := by
 obtain ⟨hi, hhi⟩ : ∃ x : Int, h - 1 = x := ⟨_, rfl⟩
 have ew : IntKind.i64.wrap (h - 1) = hi := (i64_w _).trans ((w64i_ (by omega) (by omega)).trans hhi)
 have p0 : 0 ≤ hi := by omega
 have p1 : hi < p.th.length := by omega
 rw [hhi] at hw ⊢
 have H1 := hS.box #[.pointer (some ⟨p.g, 0, none⟩)] 53
 obtain ⟨tvc, gb⟩ := H1.graph
 have g0 := blk_cell gb 0
 obtain ⟨ad, A3, c3, hA, x0, x1, x2, x3, x4, hC⟩ := H1.thing hi p0 p1
 have g0' : (p.W.alloc (.cells #[.pointer (some ⟨p.g, 0, none⟩)] 53)).cell? ⟨p.g, 0, none⟩ = some (.slice (some ad) p.th.length p.c0) := g0.trans (by rw [hA]; rfl)
 obtain ⟨t, ht⟩ : ∃ t, rd_T43 p.th hi = t := ⟨_, rfl⟩
 have hlen : t.f3.length ≤ 1000000 := by
  rw [← ht]
  refine hsl _ ?_
  unfold rd_T43
  rw [List.getD_eq_getElem?_getD, List.getElem?_eq_getElem (by omega)]
  exact List.getElem_mem _
 rw [ht] at x0 x1 x2 x3 x4 hC hw ⊢
 have H2 := H1.box #[.int .i64 t.f0, .int .i64 t.f1, .int .i64 t.f2, .slice A3 t.f3.length c3, .int .i64 t.f4] 43
 have es : (p.W.alloc (.cells #[.pointer (some ⟨p.g, 0, none⟩)] 53)).heap.size = p.W.heap.size + 1 := by simp
 rw [es] at H2
 have HG := Aside0.mk H2
 have HC := Aside0.mk hC
 have HM := Aside0.mk hm
 have HW := Aside0.mk hw
 have HL := Aside0.mk hlen
 replace p0 := eq_true p0
 replace p1 := eq_true p1
 clear hS H1 H2 gb g0 hm hsl hhi hA ht hC hw hlen es h0 h1
 go_enter Try.func43, Try.ntmps43
 go_wp2_with (first | (go_at_call 37; (with_reducible refine (HG.out.weak (Below.refl _ _) _ _ _ _ _ _ _).mono ?_); rintro e w2 ⟨rfl, h2⟩; rw [HW.out]; clear x0 x1 x2 x3 x4 g0' HG; have HG := Aside0.mk h2; clear h2; have z3 : w2.cell? ⟨p.W.heap.size + 1, 3, none⟩ = some (.slice A3 t.f3.length c3) := blk_cell (HG.out.blk (b := p.W.heap.size + 1) (cs := #[.int .i64 t.f0, .int .i64 t.f1, .int .i64 t.f2, .slice A3 t.f3.length c3, .int .i64 t.f4]) (T := 43) (by simp)) 3))
 go_loopg [23] t.f3.length (fun kq v w' => ∃ (j : Nat) (i : Int), v = .int .i64 i ∧ Aside0 (i = j) ∧ Aside0 (j + kq = t.f3.length) ∧ Aside0 (GL p w' [(p.W.heap.size + 1, #[.int .i64 t.f0, .int .i64 t.f1, .int .i64 t.f2, .slice A3 t.f3.length c3, .int .i64 t.f4], 43), (p.W.heap.size, #[.pointer (some ⟨p.g, 0, none⟩)], 53)] ((t.f3.take j).foldl (fun s v => needF p.th s.1 s.2 v.f0 v.f1) s)))
 case atStart => exact ⟨0, 0, rfl, ⟨rfl⟩, ⟨by omega⟩, ⟨by simpa using HG.out⟩⟩
 case round =>
  obtain ⟨j, i, hv, IJ, JK, HG2⟩ := hrel
  subst hv
  clear HG z3
  have HG := HG2
  clear HG2
  have ij := IJ.out
  have jk := JK.out
  have hl := HL.out
  rcases gk with _ | gk
  ·have c1 : decide (i < (t.f3.length : Int)) = false := decide_eq_false (by omega)
   have JE := Aside0.mk (show j = t.f3.length by omega)
   clear ij jk hl
   go_wp2
   refine ⟨rfl, .tuple #[], by exact results_none rfl _ _ _, ?_⟩
   have h := HG.out
   rw [JE.out, List.take_length] at h
   exact ⟨rfl, _, h⟩
  ·have i0 : 0 ≤ i := by omega
   have i1 : i < (t.f3.length : Int) := by omega
   obtain ⟨i2, hi2⟩ : ∃ x : Int, i + 1 = x := ⟨_, rfl⟩
   have ew2 : IntKind.i64.wrap (i + 1) = i2 := (i64_w _).trans ((w64i_ (by omega) (by omega)).trans hi2)
   have c1 : decide (i < (t.f3.length : Int)) = true := decide_eq_true i1
   obtain ⟨ad3, rfl, _⟩ := at_T40 HC.out i i0 i1
   obtain ⟨y0, y1⟩ := HG.out.slot HC.out i i0 i1
   have HB := Aside0.mk (HG.out.box #[.int .i64 (rd_T40 t.f3 i).f0, .int .i64 (rd_T40 t.f3 i).f1] 40)
   have z0 : (wr.alloc (.cells #[.int .i64 (rd_T40 t.f3 i).f0, .int .i64 (rd_T40 t.f3 i).f1] 40)).cell? ⟨p.W.heap.size, 0, none⟩ = some (.pointer (some ⟨p.g, 0, none⟩)) := blk_cell (HB.out.blk (b := p.W.heap.size) (cs := #[.pointer (some ⟨p.g, 0, none⟩)]) (T := 53) (by simp)) 0
   have JL := Aside0.mk (show j < t.f3.length by omega)
   have I2 := Aside0.mk hi2
   replace i0 := eq_true i0
   replace i1 := eq_true i1
   clear ij jk hl hi2
   go_wp2_with (first | (go_at_call 28; (with_reducible refine (HB.out.need (Below.refl _ _) HM.out _ _).mono ?_); rintro e w3 ⟨rfl, h3⟩; have HN := Aside0.mk h3; clear h3))
   go_roundg gk
   case measure => omega
   case rel =>
    refine ⟨j + 1, _, rfl, ⟨by have := IJ.out; have := I2.out; omega⟩, ⟨by have := JK.out; omega⟩, ⟨?_⟩⟩
    have hh := HN.out.drop
    have e1 : i = j := IJ.out
    subst e1
    rw [List.take_add_one, List.foldl_append, List.getElem?_eq_getElem JL.out]
    have e2 : rd_T40 t.f3 (j : Int) = t.f3[j]'JL.out := by
     unfold rd_T40
     rw [Int.toNat_natCast, List.getD_eq_getElem?_getD, List.getElem?_eq_getElem JL.out]
     rfl
    rw [e2] at hh
    exact hh
set_option maxHeartbeats 8000000 in
set_option maxRecDepth 100000 in
theorem lead_weak0 (p : GP) (s : List Bool × List Int) (hS : GL p p.W [] s) (hm : p.th.length ≤ 1000000) (hsl : ∀ t ∈ p.th, t.f3.length ≤ 1000000) (h : Int) (h0 : 1 ≤ h) (h1 : h ≤ p.th.length) (hw : weakF (rd_T43 p.th (h - 1)).f0 (rd_T43 p.th (h - 1)).f1 ≠ 0) (hz : (rd_T43 p.th (h - 1)).f3.length = 0) :
  Calls Try.prog 43 #[.pointer (some ⟨p.g, 0, none⟩), .int .i64 h] p.W fun e W' => e = .returned (.tuple #[]) ∧ ∃ kb, GL p W' kb ((slotsL (rd_T43 p.th (h - 1)).f3.length (rd_T43 p.th (h - 1)).f2).foldl (fun s q => stepF p.th (rd_T43 p.th (h - 1)).f0 (rd_T43 p.th (h - 1)).f1 (rd_T43 p.th (h - 1)).f3 s q.1 q.2) s) := by
 obtain ⟨hi, hhi⟩ : ∃ x : Int, h - 1 = x := ⟨_, rfl⟩
 have ew : IntKind.i64.wrap (h - 1) = hi := (i64_w _).trans ((w64i_ (by omega) (by omega)).trans hhi)
 have p0 : 0 ≤ hi := by omega
 have p1 : hi < p.th.length := by omega
 rw [hhi] at hw hz ⊢
 have H1 := hS.box #[.pointer (some ⟨p.g, 0, none⟩)] 53
 obtain ⟨tvc, gb⟩ := H1.graph
 have g0 := blk_cell gb 0
 obtain ⟨ad, A3, c3, hA, x0, x1, x2, x3, x4, hC⟩ := H1.thing hi p0 p1
 have g0' : (p.W.alloc (.cells #[.pointer (some ⟨p.g, 0, none⟩)] 53)).cell? ⟨p.g, 0, none⟩ = some (.slice (some ad) p.th.length p.c0) := g0.trans (by rw [hA]; rfl)
 obtain ⟨t, ht⟩ : ∃ t, rd_T43 p.th hi = t := ⟨_, rfl⟩
 have hlen : t.f3.length ≤ 1000000 := by
  rw [← ht]
  refine hsl _ ?_
  unfold rd_T43
  rw [List.getD_eq_getElem?_getD, List.getElem?_eq_getElem (by omega)]
  exact List.getElem_mem _
 rw [ht] at x0 x1 x2 x3 x4 hC hw hz ⊢
 have H2 := H1.box #[.int .i64 t.f0, .int .i64 t.f1, .int .i64 t.f2, .slice A3 t.f3.length c3, .int .i64 t.f4] 43
 have es : (p.W.alloc (.cells #[.pointer (some ⟨p.g, 0, none⟩)] 53)).heap.size = p.W.heap.size + 1 := by simp
 rw [es] at H2
 have HG := Aside0.mk H2
 have HC := Aside0.mk hC
 have HM := Aside0.mk hm
 obtain ⟨wv, hwv⟩ : ∃ wv, weakF t.f0 t.f1 = wv := ⟨_, rfl⟩
 rw [hwv] at hw
 have cw : (wv == 0) = false := beq_eq_false_iff_ne.mpr hw
 have HW := Aside0.mk hwv
 clear hwv
 have hsf : ∀ (a : Addr) (fn : Fn) (first cap : Array Value) (m : Mode) (w : World), (store a (.func fn first cap) m).run Try.prog w = stored Try.prog w a (.func fn first cap) m := fun a fn f c m w => run_store _ w a _ m rfl
 have hmf : ∀ (fn : Fn) (first cap : Array Value) (w : World), (Instr.makeFunc fn first cap).run Try.prog w = .ok (.func fn first cap) w := fun _ _ _ _ => rfl
 have cz : decide (0 < t.f3.length) = false := decide_eq_false (by omega)
 have HZ := Aside0.mk hz
 clear hz
 have HL := Aside0.mk hlen
 replace p0 := eq_true p0
 replace p1 := eq_true p1
 clear hS H1 H2 gb g0 hm hsl hhi hA ht hC hw hlen es h0 h1
 go_enter Try.func43, Try.ntmps43
 go_wp2_with (first | (go_at_call 37; (with_reducible refine (HG.out.weak (Below.refl _ _) _ _ _ _ _ _ _).mono ?_); rintro e w2 ⟨rfl, h2⟩; rw [HW.out]; clear x0 x1 x2 x3 x4 g0' HG; have HG := Aside0.mk h2; clear h2; have z3 : w2.cell? ⟨p.W.heap.size + 1, 3, none⟩ = some (.slice A3 t.f3.length c3) := blk_cell (HG.out.blk (b := p.W.heap.size + 1) (cs := #[.int .i64 t.f0, .int .i64 t.f1, .int .i64 t.f2, .slice A3 t.f3.length c3, .int .i64 t.f4]) (T := 43) (by simp)) 3; have y0 : w2.cell? ⟨p.W.heap.size, 0, none⟩ = some (.pointer (some ⟨p.g, 0, none⟩)) := blk_cell (HG.out.blk (b := p.W.heap.size) (cs := #[.pointer (some ⟨p.g, 0, none⟩)]) (T := 53) (by simp)) 0; have HB := Aside0.mk (HG.out.box #[.func (.func 46) #[] #[.pointer (some ⟨p.W.heap.size, 0, none⟩)]] 55); have b0 : (w2.alloc (.cells #[.func (.func 46) #[] #[.pointer (some ⟨p.W.heap.size, 0, none⟩)]] 55)).cell? ⟨p.W.heap.size + 1, 0, none⟩ = some (.int .i64 t.f0) := blk_cell (HB.out.blk (b := p.W.heap.size + 1) (cs := #[.int .i64 t.f0, .int .i64 t.f1, .int .i64 t.f2, .slice A3 t.f3.length c3, .int .i64 t.f4]) (T := 43) (by simp)) 0; have b1 : (w2.alloc (.cells #[.func (.func 46) #[] #[.pointer (some ⟨p.W.heap.size, 0, none⟩)]] 55)).cell? ⟨p.W.heap.size + 1, 1, none⟩ = some (.int .i64 t.f1) := blk_cell (HB.out.blk (b := p.W.heap.size + 1) (cs := #[.int .i64 t.f0, .int .i64 t.f1, .int .i64 t.f2, .slice A3 t.f3.length c3, .int .i64 t.f4]) (T := 43) (by simp)) 1; have b2 : (w2.alloc (.cells #[.func (.func 46) #[] #[.pointer (some ⟨p.W.heap.size, 0, none⟩)]] 55)).cell? ⟨p.W.heap.size + 1, 2, none⟩ = some (.int .i64 t.f2) := blk_cell (HB.out.blk (b := p.W.heap.size + 1) (cs := #[.int .i64 t.f0, .int .i64 t.f1, .int .i64 t.f2, .slice A3 t.f3.length c3, .int .i64 t.f4]) (T := 43) (by simp)) 2; have b3 : (w2.alloc (.cells #[.func (.func 46) #[] #[.pointer (some ⟨p.W.heap.size, 0, none⟩)]] 55)).cell? ⟨p.W.heap.size + 1, 3, none⟩ = some (.slice A3 t.f3.length c3) := blk_cell (HB.out.blk (b := p.W.heap.size + 1) (cs := #[.int .i64 t.f0, .int .i64 t.f1, .int .i64 t.f2, .slice A3 t.f3.length c3, .int .i64 t.f4]) (T := 43) (by simp)) 3; have b4 : (w2.alloc (.cells #[.func (.func 46) #[] #[.pointer (some ⟨p.W.heap.size, 0, none⟩)]] 55)).cell? ⟨p.W.heap.size + 1, 4, none⟩ = some (.int .i64 t.f4) := blk_cell (HB.out.blk (b := p.W.heap.size + 1) (cs := #[.int .i64 t.f0, .int .i64 t.f1, .int .i64 t.f2, .slice A3 t.f3.length c3, .int .i64 t.f4]) (T := 43) (by simp)) 4) | (go_at_call 38; (with_reducible refine (slots_calls47 (fun w s => GL p w [(w2.heap.size, #[.func (.func 46) #[] #[.pointer (some ⟨p.W.heap.size, 0, none⟩)]], 55), (p.W.heap.size + 1, #[.int .i64 t.f0, .int .i64 t.f1, .int .i64 t.f2, .slice A3 t.f3.length c3, .int .i64 t.f4], 43), (p.W.heap.size, #[.pointer (some ⟨p.g, 0, none⟩)], 53)] s) (fun s q => stepF p.th t.f0 t.f1 t.f3 s q.1 q.2) _ (s) t.f0 t.f1 t.f2 t.f4 A3 t.f3.length c3 HL.out (.pointer (some ⟨p.W.heap.size + 1, 0, none⟩)) (.pointer (some ⟨p.W.heap.size, 0, none⟩)) (.pointer (some ⟨w2.heap.size, 0, none⟩)) (fun pre w wx key value _ hi hb _ hk hv hv0 => hi.step2 hb HM.out (List.Mem.tail _ (List.Mem.head _)) (List.Mem.tail _ (List.Mem.tail _ (List.Mem.head _))) (List.Mem.head _) HC.out key value hv0 hv hk) (fun s w wx hi hb => hi.below hb) HB.out).mono ?_); rintro e w9 ⟨rfl, h9⟩; have HN := Aside0.mk h9; clear h9))
 go_end0
 exact ⟨rfl, _, HN.out⟩
set_option maxHeartbeats 8000000 in
set_option maxRecDepth 100000 in
theorem lead_weak1 (p : GP) (s : List Bool × List Int) (hS : GL p p.W [] s) (hm : p.th.length ≤ 1000000) (hsl : ∀ t ∈ p.th, t.f3.length ≤ 1000000) (h : Int) (h0 : 1 ≤ h) (h1 : h ≤ p.th.length) (hw : weakF (rd_T43 p.th (h - 1)).f0 (rd_T43 p.th (h - 1)).f1 ≠ 0) (hz : (rd_T43 p.th (h - 1)).f3.length ≠ 0) :
  Calls Try.prog 43 #[.pointer (some ⟨p.g, 0, none⟩), .int .i64 h] p.W fun e W' => e = .returned (.tuple #[]) ∧ ∃ kb, GL p W' kb ((slotsL (rd_T43 p.th (h - 1)).f3.length (rd_T43 p.th (h - 1)).f2).foldl (fun s q => stepF p.th (rd_T43 p.th (h - 1)).f0 (rd_T43 p.th (h - 1)).f1 (rd_T43 p.th (h - 1)).f3 s q.1 q.2) (needF p.th s.1 s.2 (rd_T40 (rd_T43 p.th (h - 1)).f3 0).f0 (rd_T40 (rd_T43 p.th (h - 1)).f3 0).f1)) := by
 obtain ⟨hi, hhi⟩ : ∃ x : Int, h - 1 = x := ⟨_, rfl⟩
 have ew : IntKind.i64.wrap (h - 1) = hi := (i64_w _).trans ((w64i_ (by omega) (by omega)).trans hhi)
 have p0 : 0 ≤ hi := by omega
 have p1 : hi < p.th.length := by omega
 rw [hhi] at hw hz ⊢
 have H1 := hS.box #[.pointer (some ⟨p.g, 0, none⟩)] 53
 obtain ⟨tvc, gb⟩ := H1.graph
 have g0 := blk_cell gb 0
 obtain ⟨ad, A3, c3, hA, x0, x1, x2, x3, x4, hC⟩ := H1.thing hi p0 p1
 have g0' : (p.W.alloc (.cells #[.pointer (some ⟨p.g, 0, none⟩)] 53)).cell? ⟨p.g, 0, none⟩ = some (.slice (some ad) p.th.length p.c0) := g0.trans (by rw [hA]; rfl)
 obtain ⟨t, ht⟩ : ∃ t, rd_T43 p.th hi = t := ⟨_, rfl⟩
 have hlen : t.f3.length ≤ 1000000 := by
  rw [← ht]
  refine hsl _ ?_
  unfold rd_T43
  rw [List.getD_eq_getElem?_getD, List.getElem?_eq_getElem (by omega)]
  exact List.getElem_mem _
 rw [ht] at x0 x1 x2 x3 x4 hC hw hz ⊢
 have H2 := H1.box #[.int .i64 t.f0, .int .i64 t.f1, .int .i64 t.f2, .slice A3 t.f3.length c3, .int .i64 t.f4] 43
 have es : (p.W.alloc (.cells #[.pointer (some ⟨p.g, 0, none⟩)] 53)).heap.size = p.W.heap.size + 1 := by simp
 rw [es] at H2
 have HG := Aside0.mk H2
 have HC := Aside0.mk hC
 have HM := Aside0.mk hm
 obtain ⟨wv, hwv⟩ : ∃ wv, weakF t.f0 t.f1 = wv := ⟨_, rfl⟩
 rw [hwv] at hw
 have cw : (wv == 0) = false := beq_eq_false_iff_ne.mpr hw
 have HW := Aside0.mk hwv
 clear hwv
 have hsf : ∀ (a : Addr) (fn : Fn) (first cap : Array Value) (m : Mode) (w : World), (store a (.func fn first cap) m).run Try.prog w = stored Try.prog w a (.func fn first cap) m := fun a fn f c m w => run_store _ w a _ m rfl
 have hmf : ∀ (fn : Fn) (first cap : Array Value) (w : World), (Instr.makeFunc fn first cap).run Try.prog w = .ok (.func fn first cap) w := fun _ _ _ _ => rfl
 have cz0 : (0 : Int) < (t.f3.length : Int) := by omega
 have cz : decide (0 < t.f3.length) = true := decide_eq_true (by omega)
 have czn : (0 < t.f3.length) = True := eq_true (by omega)
 have HZ := Aside0.mk cz0
 obtain ⟨ad3, hA3, _⟩ := at_T40 hC 0 (by decide) cz0
 subst hA3
 replace cz0 := eq_true cz0
 clear hz
 have HL := Aside0.mk hlen
 replace p0 := eq_true p0
 replace p1 := eq_true p1
 clear hS H1 H2 gb g0 hm hsl hhi hA ht hC hw hlen es h0 h1
 go_enter Try.func43, Try.ntmps43
 go_wp2_with (first | (go_at_call 37; (with_reducible refine (HG.out.weak (Below.refl _ _) _ _ _ _ _ _ _).mono ?_); rintro e w2 ⟨rfl, h2⟩; rw [HW.out]; clear x0 x1 x2 x3 x4 g0' HG; have HG := Aside0.mk h2; clear h2; have z3 : w2.cell? ⟨p.W.heap.size + 1, 3, none⟩ = some (.slice (some ad3) t.f3.length c3) := blk_cell (HG.out.blk (b := p.W.heap.size + 1) (cs := #[.int .i64 t.f0, .int .i64 t.f1, .int .i64 t.f2, .slice (some ad3) t.f3.length c3, .int .i64 t.f4]) (T := 43) (by simp)) 3; have y0 : w2.cell? ⟨p.W.heap.size, 0, none⟩ = some (.pointer (some ⟨p.g, 0, none⟩)) := blk_cell (HG.out.blk (b := p.W.heap.size) (cs := #[.pointer (some ⟨p.g, 0, none⟩)]) (T := 53) (by simp)) 0; have HB := Aside0.mk (HG.out.box #[.func (.func 46) #[] #[.pointer (some ⟨p.W.heap.size, 0, none⟩)]] 55); have b0 : (w2.alloc (.cells #[.func (.func 46) #[] #[.pointer (some ⟨p.W.heap.size, 0, none⟩)]] 55)).cell? ⟨p.W.heap.size + 1, 0, none⟩ = some (.int .i64 t.f0) := blk_cell (HB.out.blk (b := p.W.heap.size + 1) (cs := #[.int .i64 t.f0, .int .i64 t.f1, .int .i64 t.f2, .slice (some ad3) t.f3.length c3, .int .i64 t.f4]) (T := 43) (by simp)) 0; have b1 : (w2.alloc (.cells #[.func (.func 46) #[] #[.pointer (some ⟨p.W.heap.size, 0, none⟩)]] 55)).cell? ⟨p.W.heap.size + 1, 1, none⟩ = some (.int .i64 t.f1) := blk_cell (HB.out.blk (b := p.W.heap.size + 1) (cs := #[.int .i64 t.f0, .int .i64 t.f1, .int .i64 t.f2, .slice (some ad3) t.f3.length c3, .int .i64 t.f4]) (T := 43) (by simp)) 1; have b2 : (w2.alloc (.cells #[.func (.func 46) #[] #[.pointer (some ⟨p.W.heap.size, 0, none⟩)]] 55)).cell? ⟨p.W.heap.size + 1, 2, none⟩ = some (.int .i64 t.f2) := blk_cell (HB.out.blk (b := p.W.heap.size + 1) (cs := #[.int .i64 t.f0, .int .i64 t.f1, .int .i64 t.f2, .slice (some ad3) t.f3.length c3, .int .i64 t.f4]) (T := 43) (by simp)) 2; have b3 : (w2.alloc (.cells #[.func (.func 46) #[] #[.pointer (some ⟨p.W.heap.size, 0, none⟩)]] 55)).cell? ⟨p.W.heap.size + 1, 3, none⟩ = some (.slice (some ad3) t.f3.length c3) := blk_cell (HB.out.blk (b := p.W.heap.size + 1) (cs := #[.int .i64 t.f0, .int .i64 t.f1, .int .i64 t.f2, .slice (some ad3) t.f3.length c3, .int .i64 t.f4]) (T := 43) (by simp)) 3; have b4 : (w2.alloc (.cells #[.func (.func 46) #[] #[.pointer (some ⟨p.W.heap.size, 0, none⟩)]] 55)).cell? ⟨p.W.heap.size + 1, 4, none⟩ = some (.int .i64 t.f4) := blk_cell (HB.out.blk (b := p.W.heap.size + 1) (cs := #[.int .i64 t.f0, .int .i64 t.f1, .int .i64 t.f2, .slice (some ad3) t.f3.length c3, .int .i64 t.f4]) (T := 43) (by simp)) 4; obtain ⟨v0', v1'⟩ := HG.out.slot HC.out 0 (by decide) HZ.out; have v0 : w2.cell? ad3 = some (.int .i64 (rd_T40 t.f3 0).f0) := v0'; have v1 : w2.cell? ⟨ad3.block, ad3.off + 1, none⟩ = some (.int .i64 (rd_T40 t.f3 0).f1) := v1'; clear v0' v1'))
 refine start_ (n := 6) (S := fun w' : World => w'.cell? ⟨p.W.heap.size, 0, none⟩ = some (.pointer (some ⟨p.g, 0, none⟩)) ∧ w'.cell? ⟨p.W.heap.size + 1, 3, none⟩ = some (.slice (some ad3) t.f3.length c3) ∧ w'.cell? ad3 = some (.int .i64 (rd_T40 t.f3 0).f0) ∧ w'.cell? ⟨ad3.block, ad3.off + 1, none⟩ = some (.int .i64 (rd_T40 t.f3 0).f1)) (ds := []) (U 6 0) (by kernel_rfl) rfl rfl ⟨y0, z3, v0, v1⟩ (fun hHeld => ?_)
 refine take_ (i := 0) (N := some 35) (v := ?_) (a' := ?_) (U 6 1) rfl rfl (by kernel_rfl) (fun _ _ _ h => h) (Or.inl ⟨by rfl, ?_⟩) hHeld ?_ ?_
 rotate_left
 ·rintro w' ⟨t0_, t1_, t2_, t3_⟩
  go_simp
  with_reducible rfl
 rotate_left
 ·simp only [Act.put, Sh.s1, Sh.s2, Sh.s3, i64_w, i32_w]
  rfl
 refine pure_ (i := 1) (N := some 36) (v := ?_) (a' := ?_) (U 6 2) rfl rfl (by kernel_rfl) (fun _ _ _ h => h) (Or.inl ⟨by rfl, ?_⟩) ?_ ?_
 rotate_left
 ·intro w'
  go_simp
  with_reducible rfl
 rotate_left
 ·simp only [Act.put, Sh.s1, Sh.s2, Sh.s3, i64_w, i32_w]
  rfl
 refine take_ (i := 2) (N := some 37) (v := ?_) (a' := ?_) (U 6 3) rfl rfl (by kernel_rfl) (fun _ _ _ h => h) (Or.inl ⟨by rfl, ?_⟩) hHeld ?_ ?_
 rotate_left
 ·rintro w' ⟨t0_, t1_, t2_, t3_⟩
  go_simp
  with_reducible rfl
 rotate_left
 ·simp only [Act.put, Sh.s1, Sh.s2, Sh.s3, i64_w, i32_w]
  rfl
 refine pure_ (i := 3) (N := some 38) (v := ?_) (a' := ?_) (U 6 4) rfl rfl (by kernel_rfl) (fun _ _ _ h => h) (Or.inl ⟨by rfl, ?_⟩) ?_ ?_
 rotate_left
 ·intro w'
  go_simp
  with_reducible rfl
 rotate_left
 ·simp only [Act.put, Sh.s1, Sh.s2, Sh.s3, i64_w, i32_w]
  rfl
 refine take_ (i := 4) (N := some 39) (v := ?_) (a' := ?_) (U 6 5) rfl rfl (by kernel_rfl) (fun _ _ _ h => h) (Or.inl ⟨by rfl, ?_⟩) hHeld ?_ ?_
 rotate_left
 ·rintro w' ⟨t0_, t1_, t2_, t3_⟩
  go_simp
  with_reducible rfl
 rotate_left
 ·simp only [Act.put, Sh.s1, Sh.s2, Sh.s3, i64_w, i32_w]
  rfl
 refine one_ (i := 5) (N := some 40) (U 6 6) rfl rfl (by kernel_rfl) (by decide) (fun K hK => ?_)
 refine goes_ Try.func28 (by kernel_rfl) rfl #[.pointer (some ⟨p.g, 0, none⟩), .agg #[.int .i64 (rd_T40 t.f3 0).f0, .int .i64 (rd_T40 t.f3 0).f1]] (by rfl) rfl rfl (by (try simp only [List.map_toArray, List.map_cons, List.map_nil]); first | done | rfl) ?_
 refine (HG.out.need (below_drew (Below.refl _ _)) HM.out (rd_T40 t.f3 0).f0 (rd_T40 t.f3 0).f1).mono ?_
 rintro e w3 ⟨rfl, h3⟩
 clear HB b0 b1 b2 b3 b4 y0 z3 v0 v1 HG
 have HG := Aside0.mk h3
 clear h3
 have y0 : w3.cell? ⟨p.W.heap.size, 0, none⟩ = some (.pointer (some ⟨p.g, 0, none⟩)) := blk_cell (HG.out.blk (b := p.W.heap.size) (cs := #[.pointer (some ⟨p.g, 0, none⟩)]) (T := 53) (by simp)) 0
 have z3 : w3.cell? ⟨p.W.heap.size + 1, 3, none⟩ = some (.slice (some ad3) t.f3.length c3) := blk_cell (HG.out.blk (b := p.W.heap.size + 1) (cs := #[.int .i64 t.f0, .int .i64 t.f1, .int .i64 t.f2, .slice (some ad3) t.f3.length c3, .int .i64 t.f4]) (T := 43) (by simp)) 3
 obtain ⟨v0', v1'⟩ := HG.out.slot HC.out 0 (by decide) HZ.out
 have v0 : w3.cell? ad3 = some (.int .i64 (rd_T40 t.f3 0).f0) := v0'
 have v1 : w3.cell? ⟨ad3.block, ad3.off + 1, none⟩ = some (.int .i64 (rd_T40 t.f3 0).f1) := v1'
 clear v0' v1'
 have HB := Aside0.mk (HG.out.box #[.func (.func 46) #[] #[.pointer (some ⟨p.W.heap.size, 0, none⟩)]] 55)
 have b0 : (w3.alloc (.cells #[.func (.func 46) #[] #[.pointer (some ⟨p.W.heap.size, 0, none⟩)]] 55)).cell? ⟨p.W.heap.size + 1, 0, none⟩ = some (.int .i64 t.f0) := blk_cell (HB.out.blk (b := p.W.heap.size + 1) (cs := #[.int .i64 t.f0, .int .i64 t.f1, .int .i64 t.f2, .slice (some ad3) t.f3.length c3, .int .i64 t.f4]) (T := 43) (by simp)) 0
 have b1 : (w3.alloc (.cells #[.func (.func 46) #[] #[.pointer (some ⟨p.W.heap.size, 0, none⟩)]] 55)).cell? ⟨p.W.heap.size + 1, 1, none⟩ = some (.int .i64 t.f1) := blk_cell (HB.out.blk (b := p.W.heap.size + 1) (cs := #[.int .i64 t.f0, .int .i64 t.f1, .int .i64 t.f2, .slice (some ad3) t.f3.length c3, .int .i64 t.f4]) (T := 43) (by simp)) 1
 have b2 : (w3.alloc (.cells #[.func (.func 46) #[] #[.pointer (some ⟨p.W.heap.size, 0, none⟩)]] 55)).cell? ⟨p.W.heap.size + 1, 2, none⟩ = some (.int .i64 t.f2) := blk_cell (HB.out.blk (b := p.W.heap.size + 1) (cs := #[.int .i64 t.f0, .int .i64 t.f1, .int .i64 t.f2, .slice (some ad3) t.f3.length c3, .int .i64 t.f4]) (T := 43) (by simp)) 2
 have b3 : (w3.alloc (.cells #[.func (.func 46) #[] #[.pointer (some ⟨p.W.heap.size, 0, none⟩)]] 55)).cell? ⟨p.W.heap.size + 1, 3, none⟩ = some (.slice (some ad3) t.f3.length c3) := blk_cell (HB.out.blk (b := p.W.heap.size + 1) (cs := #[.int .i64 t.f0, .int .i64 t.f1, .int .i64 t.f2, .slice (some ad3) t.f3.length c3, .int .i64 t.f4]) (T := 43) (by simp)) 3
 have b4 : (w3.alloc (.cells #[.func (.func 46) #[] #[.pointer (some ⟨p.W.heap.size, 0, none⟩)]] 55)).cell? ⟨p.W.heap.size + 1, 4, none⟩ = some (.int .i64 t.f4) := blk_cell (HB.out.blk (b := p.W.heap.size + 1) (cs := #[.int .i64 t.f0, .int .i64 t.f1, .int .i64 t.f2, .slice (some ad3) t.f3.length c3, .int .i64 t.f4]) (T := 43) (by simp)) 4
 refine ⟨_, rfl, ?_⟩
 refine hK.out _ _ ⟨y0, z3, v0, v1⟩ (fun hHeld => ?_)
 clear hK K
 refine norm_ (a' := ?_) ?_ ?_
 rotate_left
 ·show Act.put _ (some 40) _ = _
  simp only [Act.put, Sh.s1, Sh.s2, Sh.s3, i64_w, i32_w]
  rfl
 refine done_ (by kernel_rfl) ?_
 clear hHeld
 go_wp2_with (first | (go_at_call 38; (with_reducible refine (slots_calls47 (fun w s => GL p w [(w3.heap.size, #[.func (.func 46) #[] #[.pointer (some ⟨p.W.heap.size, 0, none⟩)]], 55), (p.W.heap.size + 1, #[.int .i64 t.f0, .int .i64 t.f1, .int .i64 t.f2, .slice (some ad3) t.f3.length c3, .int .i64 t.f4], 43), (p.W.heap.size, #[.pointer (some ⟨p.g, 0, none⟩)], 53)] s) (fun s q => stepF p.th t.f0 t.f1 t.f3 s q.1 q.2) _ (needF p.th s.1 s.2 (rd_T40 t.f3 0).f0 (rd_T40 t.f3 0).f1) t.f0 t.f1 t.f2 t.f4 (some ad3) t.f3.length c3 HL.out (.pointer (some ⟨p.W.heap.size + 1, 0, none⟩)) (.pointer (some ⟨p.W.heap.size, 0, none⟩)) (.pointer (some ⟨w3.heap.size, 0, none⟩)) (fun pre w wx key value _ hi hb _ hk hv hv0 => hi.step2 hb HM.out (List.Mem.tail _ (List.Mem.head _)) (List.Mem.tail _ (List.Mem.tail _ (List.Mem.head _))) (List.Mem.head _) HC.out key value hv0 hv hk) (fun s w wx hi hb => hi.below hb) HB.out).mono ?_); rintro e w9 ⟨rfl, h9⟩; have HN := Aside0.mk h9; clear h9))
 go_end0
 exact ⟨rfl, _, HN.out⟩
/-- lead, whatever the table is -/
theorem GL.lead {p : GP} {w wx : World} {kb : List KB} {s : List Bool × List Int} (hh : GL p w kb s) (hb : Below w.heap.size w wx) (hm : p.th.length ≤ 1000000) (hsl : ∀ t ∈ p.th, t.f3.length ≤ 1000000) (h : Int) (h0 : 1 ≤ h) (h1 : h ≤ p.th.length) :
  Calls Try.prog 43 #[.pointer (some ⟨p.g, 0, none⟩), .int .i64 h] wx fun e W' => e = .returned (.tuple #[]) ∧ GL p W' kb (leadF p.th s h) := by
 obtain ⟨tvc, x, y, z, d⟩ := hh.below hb
 let q : GP := { p with W := wx, tv := tvc }
 have hq : GL q q.W [] s := GL.start (p := q) x z
 have main : Calls Try.prog 43 #[.pointer (some ⟨p.g, 0, none⟩), .int .i64 h] wx fun e W' => e = .returned (.tuple #[]) ∧ ∃ kb, GL q W' kb (leadF p.th s h) := by
  unfold leadF
  split
  ·rename_i hw
   exact lead_none q s hq hm hsl h h0 h1 hw
  ·rename_i hw
   split
   ·rename_i hz
    exact lead_weak0 q s hq hm hsl h h0 h1 hw hz
   ·rename_i hz
    exact lead_weak1 q s hq hm hsl h h0 h1 hw hz
 exact main.mono fun e W' ⟨e1, kb2, e2⟩ => ⟨e1, GL.ofPost x y d (z.lead h) e2.done⟩
end Go.Proofs.Ytollnnbcfhnlfaa.Rg

/- reach: what spread leaves, and why it ends. -/
set_option linter.unusedVariables false
set_option linter.unusedSimpArgs false
namespace Go.Proofs.Ytollnnbcfhnlfaa.Rg
open Go.Proofs.Ytollnnbcfhnlfaa.Sh
open Go.RowKit Go.Proofs.Ytollnnbcfhnlfaa.QR Go.Proofs.YtollnnbcfhnlfaaW.PrintWords Go.Proofs.YtollnnbcfhnlfaaW.PrintLast Go.Proofs.YtollnnbcfhnlfaaW.PrintMore
abbrev St := List Bool × List Int
def Less (s s' : St) : Prop := s'.2.length + s'.1.count false ≤ s.2.length + s.1.count false ∧ s'.1.count false ≤ s.1.count false
theorem Less.refl (s : St) : Less s s := ⟨Nat.le_refl _, Nat.le_refl _⟩
theorem Less.trans {a b c : St} (h : Less a b) (k : Less b c) : Less a c := ⟨Nat.le_trans k.1 h.1, Nat.le_trans k.2 h.2⟩
theorem less_need {th : List S43} {s : St} (F : Fine th s) (t n : Int) : Less s (needF th s.1 s.2 t n) := by
 unfold needF
 split
 ·rename_i h
  have := obj_bd th t n
  have := count_set s.1 (objF th t n - 1).toNat (by rw [F.len]; omega) h.2
  constructor
  ·simp only [List.length_append, List.length_cons, List.length_nil]; omega
  ·show List.count false (s.1.set _ true) ≤ _; omega
 ·exact Less.refl _
theorem less_str {th : List S43} {s : St} (F : Fine th s) (t n : Int) : Less s (strF th s.1 s.2 t n) := by
 unfold strF
 split
 ·exact less_need F t n
 ·exact Less.refl _
theorem less_step {th : List S43} {s : St} (F : Fine th s) (kind weak : Int) (sl : List S40) (key value : Int) : Less s (stepF th kind weak sl s key value) := by
 unfold stepF
 split
 ·split
  ·exact less_need F _ _
  ·split
   ·exact (less_need F _ _).trans (less_need (F.need _ _) _ _)
   ·exact Less.refl _
 ·split
  ·exact (less_need F _ _).trans (less_str (F.need _ _) _ _)
  ·split
   ·exact (less_str F _ _).trans (less_str (F.str _ _) _ _)
   ·exact less_str F _ _
theorem less_lead {th : List S43} {s : St} (F : Fine th s) (h : Int) : Less s (leadF th s h) := by
 unfold leadF
 split
 ·generalize (rd_T43 th (h - 1)).f3 = l
  revert s
  induction l with
  | nil => exact fun F => Less.refl _
  | cons x l ih => exact fun F => (less_need F _ _).trans (ih (F.need _ _))
 ·generalize slotsL (rd_T43 th (h - 1)).f3.length (rd_T43 th (h - 1)).f2 = l
  have F1 : Fine th (if (rd_T43 th (h - 1)).f3.length = 0 then s else needF th s.1 s.2 (rd_T40 (rd_T43 th (h - 1)).f3 0).f0 (rd_T40 (rd_T43 th (h - 1)).f3 0).f1) ∧ Less s (if (rd_T43 th (h - 1)).f3.length = 0 then s else needF th s.1 s.2 (rd_T40 (rd_T43 th (h - 1)).f3 0).f0 (rd_T40 (rd_T43 th (h - 1)).f3 0).f1) := by
   split
   ·exact ⟨F, Less.refl _⟩
   ·exact ⟨F.need _ _, less_need F _ _⟩
  revert F1
  generalize (if (rd_T43 th (h - 1)).f3.length = 0 then s else needF th s.1 s.2 (rd_T40 (rd_T43 th (h - 1)).f3 0).f0 (rd_T40 (rd_T43 th (h - 1)).f3 0).f1) = s1
  rintro ⟨F1, L1⟩
  refine L1.trans ?_
  clear L1
  revert s1
  induction l with
  | nil => exact fun _ F => Less.refl _
  | cons x l ih => exact fun s1 F => (less_step F _ _ _ _ _).trans (ih _ (F.step _ _ _ _ _))
/-- one is taken off the end of what is to do -/
def cutF (s : St) : St := (s.1, s.2.take (s.2.length - 1))
def lastF (s : St) : Int := rdOf 0 s.2 ((s.2.length : Int) - 1)
def popF (th : List S43) (s : St) : St := leadF th (cutF s) (lastF s)
theorem Fine.cut {th : List S43} {s : St} (F : Fine th s) : Fine th (cutF s) := by
 refine ⟨F.len, ?_, fun h hh => F.bd h (List.mem_of_mem_take hh)⟩
 have := F.sum
 simp only [cutF, List.length_take]
 omega
theorem Fine.pop {th : List S43} {s : St} (F : Fine th s) : Fine th (popF th s) := F.cut.lead _
theorem less_pop {th : List S43} {s : St} (F : Fine th s) (h : s.2 ≠ []) : (popF th s).2.length + (popF th s).1.count false < s.2.length + s.1.count false ∧ (popF th s).1.count false ≤ s.1.count false := by
 have h1 := less_lead F.cut (lastF s)
 have h2 : (cutF s).2.length + 1 = s.2.length := by
  have : s.2.length ≠ 0 := fun e => h (List.eq_nil_of_length_eq_zero e)
  simp only [cutF, List.length_take]
  omega
 unfold popF
 obtain ⟨a, b⟩ := h1
 have h3 : (cutF s).1 = s.1 := rfl
 rw [h3] at a b
 omega
theorem Fine.last {th : List S43} {s : St} (F : Fine th s) (h : s.2 ≠ []) : 1 ≤ lastF s ∧ lastF s ≤ th.length := by
 have hl : s.2.length ≠ 0 := fun e => h (List.eq_nil_of_length_eq_zero e)
 refine F.bd _ ?_
 unfold lastF rdOf
 rw [List.getD_eq_getElem?_getD, List.getElem?_eq_getElem (by omega)]
 exact List.getElem_mem _
inductive Drain (th : List S43) : St → St → Prop
 | nil {s : St} : s.2 = [] → Drain th s s
 | step {s s' : St} : s.2 ≠ [] → Drain th (popF th s) s' → Drain th s s'
def sweep1 (th : List S43) (s : St) (i : Nat) : St := if rdOf false s.1 (i : Int) = true ∧ weakF (rd_T43 th i).f0 (rd_T43 th i).f1 = 1 then leadF th s (i + 1) else s
def sweepF (th : List S43) (s : St) : St := (List.range th.length).foldl (sweep1 th) s
theorem Fine.sweep1 {th : List S43} {s : St} (F : Fine th s) (i : Nat) : Fine th (sweep1 th s i) := by
 unfold Rg.sweep1
 split
 ·exact F.lead _
 ·exact F
theorem less_sweep1 {th : List S43} {s : St} (F : Fine th s) (i : Nat) : Less s (sweep1 th s i) := by
 unfold sweep1
 split
 ·exact less_lead F _
 ·exact Less.refl _
theorem fine_sweeps {th : List S43} {s : St} (F : Fine th s) (l : List Nat) : Fine th (l.foldl (sweep1 th) s) ∧ Less s (l.foldl (sweep1 th) s) := by
 induction l generalizing s with
 | nil => exact ⟨F, Less.refl _⟩
 | cons x l ih => exact ⟨(ih (F.sweep1 x)).1, (less_sweep1 F x).trans (ih (F.sweep1 x)).2⟩
inductive Spr (th : List S43) : St → St → Prop
 | nil {s : St} : s.2 = [] → Spr th s s
 | step {s s1 s' : St} : s.2 ≠ [] → Drain th s s1 → Spr th (sweepF th s1) s' → Spr th s s'
def nu (s : St) : Nat := 2 * s.1.count false + (if s.2 = [] then 0 else 1)
theorem nu_sweep {th : List S43} {s s1 : St} (h : s.2 ≠ []) (h1 : s1.2 = []) (hc : s1.1.count false ≤ s.1.count false) (F : Fine th s1) : nu (sweepF th s1) < nu s := by
 have h2 := (fine_sweeps F (List.range th.length)).2
 unfold nu
 rw [if_neg h]
 change Less s1 (sweepF th s1) at h2
 obtain ⟨a, b⟩ := h2
 rw [h1] at a
 simp only [List.length_nil] at a
 split
 ·omega
 ·rename_i hn
  have : (sweepF th s1).2.length ≠ 0 := fun e => hn (List.eq_nil_of_length_eq_zero e)
  omega
/-- todo's own row, one shorter -/
theorem GS.pop {w0 W : World} {g : Nat} {A0 : Option Addr} {c0 : Nat} {th : List S43} {A1 : Option Addr} {c1 : Nat} {rt : List S40} {nv : Value} {nd : List Bool} {A : Option Addr} {n c m : Nat} {td : List Int} (h : GS w0 W g A0 c0 th A1 c1 rt nv nd (.slice A n c) td) (hm : m ≤ td.length) :
  GS w0 (W.setCell ⟨g, 3, none⟩ (.slice A m c)) g A0 c0 th A1 c1 rt nv nd (.slice A m c) (td.take m) := by
 have hb := h.blk
 refine ⟨?_, h.ge, h.cth, h.crt, Kd.R_set h.n hb (by decide) _ _, Kd.R_set (Kd.R_take h.t hm) hb (by decide) _ _, below_set h.b h.ge⟩
 simp [World.setCell, Array.getElem?_modify, hb]
theorem GL.todo {p : GP} {w : World} {kb : List KB} {s : St} (h : GL p w kb s) : ∃ A c, w.cell? ⟨p.g, 3, none⟩ = some (.slice A s.2.length c) ∧ w.frozen? ⟨p.g, 3, none⟩ = false ∧ (∀ i : Int, 0 ≤ i → i < s.2.length → ∃ gt, A = some ⟨gt, 0, none⟩ ∧ w.cell? ⟨gt, i.toNat, none⟩ = some (.int .i64 (rdOf 0 s.2 i))) ∧ (∀ m, m ≤ s.2.length → Fine p.th (s.1, s.2.take m) → GL p (w.setCell ⟨p.g, 3, none⟩ (.slice A m c)) kb (s.1, s.2.take m)) ∧ s.2.length ≤ c := by
 obtain ⟨tvc, x, y, z, d⟩ := h
 obtain ⟨A, c, rfl⟩ := Kd.R_slice x.t
 refine ⟨A, c, blk_cell x.blk 3, blk_frozen x.blk 3, fun i h0 h1 => ?_, fun m hm hF => ?_, ?_⟩
 ·obtain ⟨gt, cap, e, _⟩ := Kd.R_form x.t (by omega)
  cases e
  exact ⟨gt, rfl, (Kd.R_celln 0 x.t i h0 h1).1⟩
 ·have ho : (Value.slice A m c).ownBlock = (Value.slice A s.2.length c).ownBlock := by cases A <;> rfl
  refine GL.ofPost x y d hF ⟨_, x.pop hm, (Kept.refl _ _).setCell (.inl (.inl rfl)) _, .inl ho⟩
 ·obtain ⟨inner, ho⟩ := Kd.R_own x.t
  rcases ho.2 with ⟨e, e0⟩ | ⟨g, cap, cur, e, _, _, hn, _⟩
  ·omega
  ·injection e with e1 e2 e3
   omega
end Go.Proofs.Ytollnnbcfhnlfaa.Rg

/- reach: spread, walked. -/
set_option linter.unusedVariables false
set_option linter.unusedSimpArgs false
namespace Go.Proofs.Ytollnnbcfhnlfaa.Rg
open Go.Proofs.Ytollnnbcfhnlfaa.Sh
open Go.RowKit Go.Proofs.Ytollnnbcfhnlfaa.QR Go.Proofs.YtollnnbcfhnlfaaW.PrintWords Go.Proofs.YtollnnbcfhnlfaaW.PrintLast Go.Proofs.YtollnnbcfhnlfaaW.PrintMore
set_option maxHeartbeats 16000000 in
set_option maxRecDepth 100000 in
theorem spread_calls (p : GP) (s0 : St) (kb : List KB) (hS : GL p p.W kb s0) (hm : p.th.length ≤ 1000000) (hsl : ∀ t ∈ p.th, t.f3.length ≤ 1000000) :
  Calls Try.prog 30 #[.pointer (some ⟨p.g, 0, none⟩)] p.W fun e W' => e = .returned (.tuple #[]) ∧ ∃ s', Spr p.th s0 s' ∧ GL p W' kb s' := by
 have HG0 := Aside0.mk hS
 have HM := Aside0.mk hm
 have HSL := Aside0.mk hsl
 have hmf : ∀ (fn : Fn) (first cap : Array Value) (w : World), (Instr.makeFunc fn first cap).run Try.prog w = .ok (.func fn first cap) w := fun _ _ _ _ => rfl
 clear hS hm hsl
 go_enter Try.func30, Try.ntmps30
 go_wp2
 go_loopg [] (nu s0) (fun kq w' => ∃ s : St, Aside0 (nu s ≤ kq) ∧ Aside0 (∀ s', Spr p.th s s' → Spr p.th s0 s') ∧ Aside0 (GL p w' kb s))
 case atStart => exact ⟨s0, ⟨Nat.le_refl _⟩, ⟨fun _ h => h⟩, HG0⟩
 case round =>
  obtain ⟨s, NU, SP, HG⟩ := hrel
  clear HG0
  obtain ⟨A, c, d0, f0, te, tp, tc⟩ := HG.out.todo
  have TE := Aside0.mk te
  have TP := Aside0.mk tp
  clear te tp tc
  by_cases hz : s.2 = []
  ·have hn : s.2.length = 0 := by rw [hz]; rfl
   have HZ := Aside0.mk hz
   rw [hn] at d0
   clear hz hn
   go_wp2
   go_end0
   exact ⟨rfl, s, SP.out s (.nil HZ.out), HG.out⟩
  ·have hn : s.2.length ≠ 0 := fun e => hz (List.eq_nil_of_length_eq_zero e)
   obtain ⟨n, hn2⟩ : ∃ n, s.2.length = n := ⟨_, rfl⟩
   rw [hn2] at d0 hn
   have cz : decide (0 < n) = true := decide_eq_true (by omega)
   have HZ := Aside0.mk hz
   clear hz hn hn2
   go_wp2
   clear d0 f0 TE TP cz
   go_loopg [] (s.2.length + s.1.count false) (fun kq w' => ∃ s1 : St, Aside0 (s1.2.length + s1.1.count false ≤ kq) ∧ Aside0 (s1.1.count false ≤ s.1.count false) ∧ Aside0 (∀ s', Drain p.th s1 s' → Drain p.th s s') ∧ Aside0 (GL p w' kb s1))
   case atStart => exact ⟨s, ⟨Nat.le_refl _⟩, ⟨Nat.le_refl _⟩, ⟨fun _ h => h⟩, HG⟩
   case round =>
    obtain ⟨s1, MU, CC, DR, HG1⟩ := hrel
    clear HG
    have HG := HG1
    clear HG1
    obtain ⟨A, c, d0, f0, te, tp, tc⟩ := HG.out.todo
    have TE := Aside0.mk te
    have TP := Aside0.mk tp
    clear te tp
    by_cases hz : s1.2 = []
    ·have hn : s1.2.length = 0 := by rw [hz]; rfl
     have HZ1 := Aside0.mk hz
     rw [hn] at d0
     clear hz hn tc
     obtain ⟨tvc, gb⟩ := HG.out.graph
     have g0 : wr.cell? ⟨p.g, 0, none⟩ = some (.slice p.A0 p.th.length p.c0) := blk_cell gb 0
     obtain ⟨Aq, hAq⟩ : ∃ Aq, p.A0 = Aq := ⟨_, rfl⟩
     rw [hAq] at g0
     have AQ := Aside0.mk hAq
     clear hAq
     have FS := Aside0.mk HG.out.fine
     clear gb
     go_wp2
     clear g0 d0 f0 TE TP
     go_loopg [55] p.th.length (fun kq v w' => ∃ (j : Nat) (i : Int), v = .int .i64 i ∧ Aside0 (i = j) ∧ Aside0 (j + kq = p.th.length) ∧ Aside0 (GL p w' kb ((List.range j).foldl (sweep1 p.th) s1)))
     case atStart => exact ⟨0, 0, rfl, ⟨rfl⟩, ⟨by omega⟩, HG⟩
     case round =>
      obtain ⟨j, i, hv, IJ, JK, HG2⟩ := hrel
      subst hv
      clear HG
      have HG := HG2
      clear HG2
      have ij := IJ.out
      have jk := JK.out
      have hm := HM.out
      rcases gk with _ | gk
      ·have c1 : decide (i < (p.th.length : Int)) = false := decide_eq_false (by omega)
       have JE := Aside0.mk (show j = p.th.length by omega)
       clear ij jk hm
       go_wp2
       have ns := nu_sweep HZ.out HZ1.out CC.out FS.out
       go_roundg (nu (sweepF p.th s1))
       case measure => have := NU.out; omega
       case rel => exact ⟨sweepF p.th s1, ⟨Nat.le_refl _⟩, ⟨fun s' h => SP.out s' (.step HZ.out (DR.out s1 (.nil HZ1.out)) h)⟩, ⟨by have h := HG.out; rw [JE.out] at h; exact h⟩⟩
      ·have i0 : 0 ≤ i := by omega
       have i1 : i < (p.th.length : Int) := by omega
       obtain ⟨i2, hi2⟩ : ∃ x : Int, i + 1 = x := ⟨_, rfl⟩
       have ew2 : IntKind.i64.wrap (i + 1) = i2 := (i64_w _).trans ((w64i_ (by omega) (by omega)).trans hi2)
       have c1 : decide (i < (p.th.length : Int)) = true := decide_eq_true i1
       obtain ⟨ad, A3, c3, hA, x0, x1, x2, x3, x4, hC⟩ := HG.out.thing i i0 i1
       have hA2 := AQ.out.symm.trans hA
       subst hA2
       clear hA
       obtain ⟨t, ht⟩ : ∃ t, rd_T43 p.th i = t := ⟨_, rfl⟩
       rw [ht] at x0 x1 x2 x3 x4
       have HT := Aside0.mk ht
       have HB := Aside0.mk (HG.out.box #[.int .i64 t.f0, .int .i64 t.f1, .int .i64 t.f2, .slice A3 t.f3.length c3, .int .i64 t.f4] 43)
       have b0 : (wr.alloc (.cells #[.int .i64 t.f0, .int .i64 t.f1, .int .i64 t.f2, .slice A3 t.f3.length c3, .int .i64 t.f4] 43)).cell? ⟨wr.heap.size, 0, none⟩ = some (.int .i64 t.f0) := blk_cell (HB.out.blk (b := wr.heap.size) (cs := #[.int .i64 t.f0, .int .i64 t.f1, .int .i64 t.f2, .slice A3 t.f3.length c3, .int .i64 t.f4]) (T := 43) (List.Mem.head _)) 0
       have b1 : (wr.alloc (.cells #[.int .i64 t.f0, .int .i64 t.f1, .int .i64 t.f2, .slice A3 t.f3.length c3, .int .i64 t.f4] 43)).cell? ⟨wr.heap.size, 1, none⟩ = some (.int .i64 t.f1) := blk_cell (HB.out.blk (b := wr.heap.size) (cs := #[.int .i64 t.f0, .int .i64 t.f1, .int .i64 t.f2, .slice A3 t.f3.length c3, .int .i64 t.f4]) (T := 43) (List.Mem.head _)) 1
       have b2 : (wr.alloc (.cells #[.int .i64 t.f0, .int .i64 t.f1, .int .i64 t.f2, .slice A3 t.f3.length c3, .int .i64 t.f4] 43)).cell? ⟨wr.heap.size, 2, none⟩ = some (.int .i64 t.f2) := blk_cell (HB.out.blk (b := wr.heap.size) (cs := #[.int .i64 t.f0, .int .i64 t.f1, .int .i64 t.f2, .slice A3 t.f3.length c3, .int .i64 t.f4]) (T := 43) (List.Mem.head _)) 2
       have b3 : (wr.alloc (.cells #[.int .i64 t.f0, .int .i64 t.f1, .int .i64 t.f2, .slice A3 t.f3.length c3, .int .i64 t.f4] 43)).cell? ⟨wr.heap.size, 3, none⟩ = some (.slice A3 t.f3.length c3) := blk_cell (HB.out.blk (b := wr.heap.size) (cs := #[.int .i64 t.f0, .int .i64 t.f1, .int .i64 t.f2, .slice A3 t.f3.length c3, .int .i64 t.f4]) (T := 43) (List.Mem.head _)) 3
       have b4 : (wr.alloc (.cells #[.int .i64 t.f0, .int .i64 t.f1, .int .i64 t.f2, .slice A3 t.f3.length c3, .int .i64 t.f4] 43)).cell? ⟨wr.heap.size, 4, none⟩ = some (.int .i64 t.f4) := blk_cell (HB.out.blk (b := wr.heap.size) (cs := #[.int .i64 t.f0, .int .i64 t.f1, .int .i64 t.f2, .slice A3 t.f3.length c3, .int .i64 t.f4]) (T := 43) (List.Mem.head _)) 4
       obtain ⟨gn, cn, g2, ne⟩ := HB.out.needed i i0 i1
       have I2 := Aside0.mk hi2
       have HI2 := Aside0.mk (show 1 ≤ i2 ∧ i2 ≤ p.th.length by omega)
       have hlen := HG.out.fine.len
       have i3 : (i < (((List.range j).foldl (sweep1 p.th) s1).1.length : Int)) = True := eq_true (by omega)
       obtain ⟨wv, hwv⟩ : ∃ wv, weakF t.f0 t.f1 = wv := ⟨_, rfl⟩
       have HW := Aside0.mk hwv
       replace i0 := eq_true i0
       replace i1 := eq_true i1
       clear ij jk hm hi2 hC ht hwv hlen
       by_cases hn : rdOf false ((List.range j).foldl (sweep1 p.th) s1).1 i = true
       ·rw [hn] at ne
        have HNN := Aside0.mk hn
        clear hn
        by_cases hw : wv = 1
        ·have cw : (wv == 1) = true := beq_iff_eq.mpr hw
         have HWW := Aside0.mk hw
         clear hw
         go_wp2_with (first | (go_at_call 37; (with_reducible refine (HB.out.weak (Below.refl _ _) _ _ _ _ _ _ _).mono ?_); rintro e w2 ⟨rfl, h2⟩; rw [HW.out]; clear b0 b1 b2 b3 b4 g2 ne HB; have HB := Aside0.mk h2; clear h2) | (go_at_call 43; (with_reducible refine (HB.out.lead (Below.refl _ _) HM.out HSL.out i2 HI2.out.1 HI2.out.2).mono ?_); rintro e w3 ⟨rfl, h3⟩; have HN := Aside0.mk h3; clear h3))
         go_roundg gk
         case measure => omega
         case rel =>
          refine ⟨j + 1, i2, (by first | rfl | (simp; done) | (simp [*]; done)), ⟨by have := IJ.out; have := I2.out; omega⟩, ⟨by have := JK.out; omega⟩, ⟨?_⟩⟩
          rw [List.range_succ, List.foldl_append]
          have e1 : i = j := IJ.out
          subst e1
          have e2 : sweep1 p.th ((List.range j).foldl (sweep1 p.th) s1) j = leadF p.th ((List.range j).foldl (sweep1 p.th) s1) i2 := by
           unfold sweep1
           rw [if_pos ⟨HNN.out, by rw [HT.out, HW.out]; exact HWW.out⟩]
           rw [show ((j : Int) + 1) = i2 from I2.out]
          show GL p _ kb (sweep1 p.th _ j)
          rw [e2]
          exact HN.out.drop
        ·have cw : (wv == 1) = false := beq_eq_false_iff_ne.mpr hw
         have HWW := Aside0.mk hw
         clear hw
         go_wp2_with (first | (go_at_call 37; (with_reducible refine (HB.out.weak (Below.refl _ _) _ _ _ _ _ _ _).mono ?_); rintro e w2 ⟨rfl, h2⟩; rw [HW.out]; clear b0 b1 b2 b3 b4 g2 ne HB; have HB := Aside0.mk h2; clear h2))
         go_roundg gk
         case measure => omega
         case rel =>
          refine ⟨j + 1, i2, (by first | rfl | (simp; done) | (simp [*]; done)), ⟨by have := IJ.out; have := I2.out; omega⟩, ⟨by have := JK.out; omega⟩, ⟨?_⟩⟩
          rw [List.range_succ, List.foldl_append]
          have e1 : i = j := IJ.out
          subst e1
          have e2 : sweep1 p.th ((List.range j).foldl (sweep1 p.th) s1) j = (List.range j).foldl (sweep1 p.th) s1 := by
           unfold sweep1
           exact if_neg (fun z => HWW.out (by rw [← HW.out, ← HT.out]; exact z.2))
          show GL p _ kb (sweep1 p.th _ j)
          rw [e2]
          exact HB.out.drop
       ·have hn0 : rdOf false ((List.range j).foldl (sweep1 p.th) s1).1 i = false := by simpa using hn
        rw [hn0] at ne
        have HNN := Aside0.mk hn
        clear hn hn0
        go_wp2
        go_roundg gk
        case measure => omega
        case rel =>
         refine ⟨j + 1, i2, (by first | rfl | (simp; done) | (simp [*]; done)), ⟨by have := IJ.out; have := I2.out; omega⟩, ⟨by have := JK.out; omega⟩, ⟨?_⟩⟩
         rw [List.range_succ, List.foldl_append]
         have e1 : i = j := IJ.out
         subst e1
         have e2 : sweep1 p.th ((List.range j).foldl (sweep1 p.th) s1) j = (List.range j).foldl (sweep1 p.th) s1 := by
          unfold sweep1
          exact if_neg (fun z => HNN.out z.1)
         show GL p _ kb (sweep1 p.th _ j)
         rw [e2]
         exact HB.out.drop
    ·have hn : s1.2.length ≠ 0 := fun e => hz (List.eq_nil_of_length_eq_zero e)
     have hF := HG.out.fine
     have hsum := hF.sum
     have hmm := HM.out
     have hlast := hF.last hz
     obtain ⟨m, hm1⟩ : ∃ m : Int, (s1.2.length : Int) - 1 = m := ⟨_, rfl⟩
     obtain ⟨hv, hhv⟩ : ∃ hv, lastF s1 = hv := ⟨_, rfl⟩
     rw [hhv] at hlast
     obtain ⟨gt, hA, e0⟩ := TE.out m (by omega) (by omega)
     subst hA
     rw [show rdOf 0 s1.2 m = hv by rw [← hm1, ← hhv]; rfl] at e0
     obtain ⟨n, hn2⟩ : ∃ n, s1.2.length = n := ⟨_, rfl⟩
     rw [hn2] at d0 hn hm1
     have cz : decide (0 < n) = true := decide_eq_true (by omega)
     have mc : (m ≤ (c : Int)) = True := eq_true (by omega)
     have m0 : (0 ≤ m) = True := eq_true (by omega)
     have m1 : (m < (n : Int)) = True := eq_true (by omega)
     have ew : IntKind.i64.wrap ((n : Int) - 1) = m := (i64_w _).trans ((w64i_ (by omega) (by omega)).trans hm1)
     have mn := Aside0.mk (show m.toNat = s1.2.length - 1 by omega)
     have HZ1 := Aside0.mk hz
     have HV := Aside0.mk hhv
     have HL := Aside0.mk hlast
     clear hz hn hn2 hF hsum hmm hlast hm1 hhv tc
     go_wp2
     refine start_ (n := 13) (S := fun w' : World => w'.cell? ⟨p.g, 3, none⟩ = some (.slice (some ⟨gt, 0, none⟩) n c) ∧ w'.cell? ⟨gt, m.toNat, none⟩ = some (.int .i64 hv)) (ds := []) (U 13 0) (by kernel_rfl) rfl rfl ⟨d0, e0⟩ (fun hHeld => ?_)
     refine pure_ (i := 0) (N := some 20) (v := ?_) (a' := ?_) (U 13 1) rfl rfl (by kernel_rfl) (fun _ _ _ h => h) (Or.inl ⟨by rfl, ?_⟩) ?_ ?_
     rotate_left
     ·intro w'
      go_simp
      with_reducible rfl
     rotate_left
     ·simp only [Act.put, Sh.s1, Sh.s2, Sh.s3, i64_w, i32_w]
      rfl
     refine pure_ (i := 1) (N := some 21) (v := ?_) (a' := ?_) (U 13 2) rfl rfl (by kernel_rfl) (fun _ _ _ h => h) (Or.inl ⟨by rfl, ?_⟩) ?_ ?_
     rotate_left
     ·intro w'
      go_simp
      with_reducible rfl
     rotate_left
     ·simp only [Act.put, Sh.s1, Sh.s2, Sh.s3, i64_w, i32_w]
      rfl
     refine pure_ (i := 2) (N := some 22) (v := ?_) (a' := ?_) (U 13 3) rfl rfl (by kernel_rfl) (fun _ _ _ h => h) (Or.inl ⟨by rfl, ?_⟩) ?_ ?_
     rotate_left
     ·intro w'
      go_simp
      with_reducible rfl
     rotate_left
     ·simp only [Act.put, Sh.s1, Sh.s2, Sh.s3, i64_w, i32_w]
      rfl
     refine take_ (i := 3) (N := some 23) (v := ?_) (a' := ?_) (U 13 4) rfl rfl (by kernel_rfl) (fun _ _ _ h => h) (Or.inl ⟨by rfl, ?_⟩) hHeld ?_ ?_
     rotate_left
     ·rintro w' ⟨t0_, t1_⟩
      go_simp
      with_reducible rfl
     rotate_left
     ·simp only [Act.put, Sh.s1, Sh.s2, Sh.s3, i64_w, i32_w]
      rfl
     refine pure_ (i := 4) (N := some 24) (v := ?_) (a' := ?_) (U 13 5) rfl rfl (by kernel_rfl) (fun _ _ _ h => h) (Or.inl ⟨by rfl, ?_⟩) ?_ ?_
     rotate_left
     ·intro w'
      go_simp
      with_reducible rfl
     rotate_left
     ·simp only [Act.put, Sh.s1, Sh.s2, Sh.s3, i64_w, i32_w]
      rfl
     refine pure_ (i := 5) (N := some 25) (v := ?_) (a' := ?_) (U 13 6) rfl rfl (by kernel_rfl) (fun _ _ _ h => h) (Or.inl ⟨by rfl, ?_⟩) ?_ ?_
     rotate_left
     ·intro w'
      go_simp
      with_reducible rfl
     rotate_left
     ·simp only [Act.put, Sh.s1, Sh.s2, Sh.s3, i64_w, i32_w]
      rfl
     refine pure_ (i := 6) (N := some 26) (v := ?_) (a' := ?_) (U 13 7) rfl rfl (by kernel_rfl) (fun _ _ _ h => h) (Or.inl ⟨by rfl, ?_⟩) ?_ ?_
     rotate_left
     ·intro w'
      go_simp
      with_reducible rfl
     rotate_left
     ·simp only [Act.put, Sh.s1, Sh.s2, Sh.s3, i64_w, i32_w]
      rfl
     refine take_ (i := 7) (N := some 27) (v := ?_) (a' := ?_) (U 13 8) rfl rfl (by kernel_rfl) (fun _ _ _ h => h) (Or.inl ⟨by rfl, ?_⟩) hHeld ?_ ?_
     rotate_left
     ·rintro w' ⟨t0_, t1_⟩
      go_simp
      with_reducible rfl
     rotate_left
     ·simp only [Act.put, Sh.s1, Sh.s2, Sh.s3, i64_w, i32_w]
      rfl
     refine pure_ (i := 8) (N := some 28) (v := ?_) (a' := ?_) (U 13 9) rfl rfl (by kernel_rfl) (fun _ _ _ h => h) (Or.inl ⟨by rfl, ?_⟩) ?_ ?_
     rotate_left
     ·intro w'
      go_simp
      with_reducible rfl
     rotate_left
     ·simp only [Act.put, Sh.s1, Sh.s2, Sh.s3, i64_w, i32_w]
      rfl
     refine pure_ (i := 9) (N := some 29) (v := ?_) (a' := ?_) (U 13 10) rfl rfl (by kernel_rfl) (fun _ _ _ h => h) (Or.inl ⟨by rfl, ?_⟩) ?_ ?_
     rotate_left
     ·intro w'
      go_simp
      with_reducible rfl
     rotate_left
     ·simp only [Act.put, Sh.s1, Sh.s2, Sh.s3, i64_w, i32_w]
      rfl
     refine pure_ (i := 10) (N := some 30) (v := ?_) (a' := ?_) (U 13 11) rfl rfl (by kernel_rfl) (fun _ _ _ h => h) (Or.inl ⟨by rfl, ?_⟩) ?_ ?_
     rotate_left
     ·intro w'
      go_simp
      with_reducible rfl
     rotate_left
     ·simp only [Act.put, Sh.s1, Sh.s2, Sh.s3, i64_w, i32_w]
      rfl
     refine take_ (i := 11) (N := some 31) (v := ?_) (a' := ?_) (U 13 12) rfl rfl (by kernel_rfl) (fun _ _ _ h => h) (Or.inl ⟨by rfl, ?_⟩) hHeld ?_ ?_
     rotate_left
     ·rintro w' ⟨t0_, t1_⟩
      go_simp
      with_reducible rfl
     rotate_left
     ·simp only [Act.put, Sh.s1, Sh.s2, Sh.s3, i64_w, i32_w]
      rfl
     refine pure_ (i := 12) (N := some 3) (v := ?_) (a' := ?_) (U 13 13) rfl rfl (by kernel_rfl) (fun _ _ _ h => h) (Or.inl ⟨by rfl, ?_⟩) ?_ ?_
     rotate_left
     ·intro w'
      go_simp
      with_reducible rfl
     rotate_left
     ·simp only [Act.put, Sh.s1, Sh.s2, Sh.s3, i64_w, i32_w]
      rfl
     refine done_ (by kernel_rfl) ?_
     clear hHeld
     go_wp2
     refine start_ (n := 15) (S := fun w' : World => w'.cell? ⟨p.g, 3, none⟩ = some (.slice (some ⟨gt, 0, none⟩) n c) ∧ True) (ds := [14]) (U 15 0) (by kernel_rfl) rfl rfl ⟨d0, trivial⟩ (fun hHeld => ?_)
     refine pure_ (i := 0) (N := some 32) (v := ?_) (a' := ?_) (U 15 1) rfl rfl (by kernel_rfl) (fun _ _ _ h => h) (Or.inl ⟨by rfl, ?_⟩) ?_ ?_
     rotate_left
     ·intro w'
      go_simp
      with_reducible rfl
     rotate_left
     ·simp only [Act.put, Sh.s1, Sh.s2, Sh.s3, i64_w, i32_w]
      rfl
     refine pure_ (i := 1) (N := some 33) (v := ?_) (a' := ?_) (U 15 2) rfl rfl (by kernel_rfl) (fun _ _ _ h => h) (Or.inl ⟨by rfl, ?_⟩) ?_ ?_
     rotate_left
     ·intro w'
      go_simp
      with_reducible rfl
     rotate_left
     ·simp only [Act.put, Sh.s1, Sh.s2, Sh.s3, i64_w, i32_w]
      rfl
     refine pure_ (i := 2) (N := some 34) (v := ?_) (a' := ?_) (U 15 3) rfl rfl (by kernel_rfl) (fun _ _ _ h => h) (Or.inl ⟨by rfl, ?_⟩) ?_ ?_
     rotate_left
     ·intro w'
      go_simp
      with_reducible rfl
     rotate_left
     ·simp only [Act.put, Sh.s1, Sh.s2, Sh.s3, i64_w, i32_w]
      rfl
     refine pure_ (i := 3) (N := some 35) (v := ?_) (a' := ?_) (U 15 4) rfl rfl (by kernel_rfl) (fun _ _ _ h => h) (Or.inl ⟨by rfl, ?_⟩) ?_ ?_
     rotate_left
     ·intro w'
      go_simp
      with_reducible rfl
     rotate_left
     ·simp only [Act.put, Sh.s1, Sh.s2, Sh.s3, i64_w, i32_w]
      rfl
     refine take_ (i := 4) (N := some 36) (v := ?_) (a' := ?_) (U 15 5) rfl rfl (by kernel_rfl) (fun _ _ _ h => h) (Or.inl ⟨by rfl, ?_⟩) hHeld ?_ ?_
     rotate_left
     ·rintro w' ⟨t0_, t1_⟩
      go_simp
      with_reducible rfl
     rotate_left
     ·simp only [Act.put, Sh.s1, Sh.s2, Sh.s3, i64_w, i32_w]
      rfl
     refine pure_ (i := 5) (N := some 37) (v := ?_) (a' := ?_) (U 15 6) rfl rfl (by kernel_rfl) (fun _ _ _ h => h) (Or.inl ⟨by rfl, ?_⟩) ?_ ?_
     rotate_left
     ·intro w'
      go_simp
      with_reducible rfl
     rotate_left
     ·simp only [Act.put, Sh.s1, Sh.s2, Sh.s3, i64_w, i32_w]
      rfl
     refine pure_ (i := 6) (N := some 38) (v := ?_) (a' := ?_) (U 15 7) rfl rfl (by kernel_rfl) (fun _ _ _ h => h) (Or.inl ⟨by rfl, ?_⟩) ?_ ?_
     rotate_left
     ·intro w'
      go_simp
      with_reducible rfl
     rotate_left
     ·simp only [Act.put, Sh.s1, Sh.s2, Sh.s3, i64_w, i32_w]
      rfl
     refine pure_ (i := 7) (N := some 39) (v := ?_) (a' := ?_) (U 15 8) rfl rfl (by kernel_rfl) (fun _ _ _ h => h) (Or.inl ⟨by rfl, ?_⟩) ?_ ?_
     rotate_left
     ·intro w'
      go_simp
      with_reducible rfl
     rotate_left
     ·simp only [Act.put, Sh.s1, Sh.s2, Sh.s3, i64_w, i32_w]
      rfl
     refine take_ (i := 8) (N := some 40) (v := ?_) (a' := ?_) (U 15 9) rfl rfl (by kernel_rfl) (fun _ _ _ h => h) (Or.inl ⟨by rfl, ?_⟩) hHeld ?_ ?_
     rotate_left
     ·rintro w' ⟨t0_, t1_⟩
      go_simp
      with_reducible rfl
     rotate_left
     ·simp only [Act.put, Sh.s1, Sh.s2, Sh.s3, i64_w, i32_w]
      rfl
     refine pure_ (i := 9) (N := some 41) (v := ?_) (a' := ?_) (U 15 10) rfl rfl (by kernel_rfl) (fun _ _ _ h => h) (Or.inl ⟨by rfl, ?_⟩) ?_ ?_
     rotate_left
     ·intro w'
      go_simp
      with_reducible rfl
     rotate_left
     ·simp only [Act.put, Sh.s1, Sh.s2, Sh.s3, i64_w, i32_w]
      rfl
     refine pure_ (i := 10) (N := some 42) (v := ?_) (a' := ?_) (U 15 11) rfl rfl (by kernel_rfl) (fun _ _ _ h => h) (Or.inl ⟨by rfl, ?_⟩) ?_ ?_
     rotate_left
     ·intro w'
      go_simp
      with_reducible rfl
     rotate_left
     ·simp only [Act.put, Sh.s1, Sh.s2, Sh.s3, i64_w, i32_w]
      rfl
     refine pure_ (i := 11) (N := some 43) (v := ?_) (a' := ?_) (U 15 12) rfl rfl (by kernel_rfl) (fun _ _ _ h => h) (Or.inl ⟨by rfl, ?_⟩) ?_ ?_
     rotate_left
     ·intro w'
      go_simp
      with_reducible rfl
     rotate_left
     ·simp only [Act.put, Sh.s1, Sh.s2, Sh.s3, i64_w, i32_w]
      rfl
     refine pure_ (i := 12) (N := some 44) (v := ?_) (a' := ?_) (U 15 13) rfl rfl (by kernel_rfl) (fun _ _ _ h => h) (Or.inl ⟨by rfl, ?_⟩) ?_ ?_
     rotate_left
     ·intro w'
      go_simp
      with_reducible rfl
     rotate_left
     ·simp only [Act.put, Sh.s1, Sh.s2, Sh.s3, i64_w, i32_w]
      rfl
     refine pure_ (i := 13) (N := some 45) (v := ?_) (a' := ?_) (U 15 14) rfl rfl (by kernel_rfl) (fun _ _ _ h => h) (Or.inl ⟨by rfl, ?_⟩) ?_ ?_
     rotate_left
     ·intro w'
      go_simp
      with_reducible rfl
     rotate_left
     ·simp only [Act.put, Sh.s1, Sh.s2, Sh.s3, i64_w, i32_w]
      rfl
     refine last_ (i := 14) (N := none) (U 15 15) rfl rfl (by kernel_rfl) (by decide) (fun K hK => ?_)
     refine skip_ (w1 := ?_) (by rfl) rfl ?_ ?_
     rotate_left
     ·go_simp
      rfl
     refine hK.out _ _ ?_
     clear hK K
     refine done_ (by kernel_rfl) ?_
     clear hHeld
     have HP := Aside0.mk (TP.out m.toNat (by have := mn.out; omega) (by rw [mn.out]; exact HG.out.fine.cut))
     go_wp2_with (first | (go_at_call 43; (with_reducible refine (HP.out.lead (below_drew (below_drew (Below.refl _ _))) HM.out HSL.out hv HL.out.1 HL.out.2).mono ?_); rintro e w2 ⟨rfl, h2⟩; have HN := Aside0.mk h2; clear h2))
     have lp := less_pop HG.out.fine HZ1.out
     have ep : leadF p.th (s1.1, s1.2.take m.toNat) hv = popF p.th s1 := by
      unfold popF cutF
      rw [mn.out, HV.out]
     go_roundg ((popF p.th s1).2.length + (popF p.th s1).1.count false)
     case measure => have := MU.out; omega
     case rel => exact ⟨popF p.th s1, ⟨Nat.le_refl _⟩, ⟨Nat.le_trans lp.2 CC.out⟩, ⟨fun s' h => DR.out s' (.step HZ1.out h)⟩, ⟨by rw [← ep]; exact HN.out⟩⟩
end Go.Proofs.Ytollnnbcfhnlfaa.Rg
