/- reach, part G4 of the hand texts (St, Ri, Rt): what each part says stands at its head. -/
import Derived.Test.YtollnnbcfhnlfaaG3
import Derived.Test.YtollnnbcfhnlfaaMp
/- reach: Strong, walked. -/
set_option linter.unusedVariables false
set_option linter.unusedSimpArgs false
namespace Go.Proofs.Ytollnnbcfhnlfaa.Rg
open Go.RowKit Go.Proofs.Ytollnnbcfhnlfaa.QR Go.Proofs.YtollnnbcfhnlfaaW.PrintWords Go.Proofs.YtollnnbcfhnlfaaW.PrintLast Go.Proofs.YtollnnbcfhnlfaaW.PrintMore
theorem GL.spread {p : GP} {w wx : World} {kb : List KB} {s : St} (hh : GL p w kb s) (hb : Below w.heap.size w wx) (hm : p.th.length ≤ 1000000) (hsl : ∀ t ∈ p.th, t.f3.length ≤ 1000000) :
  Calls Try.prog 30 #[.pointer (some ⟨p.g, 0, none⟩)] wx fun e W' => e = .returned (.tuple #[]) ∧ ∃ s', Spr p.th s s' ∧ GL p W' kb s' := by
 obtain ⟨tvc, x, y, z, d⟩ := hh.below hb
 let q : GP := { p with W := wx, tv := tvc }
 have hq : GL q q.W kb s := ⟨tvc, x, fun _ _ h => h, z, d⟩
 refine (spread_calls q s kb hq hm hsl).mono fun e W' ⟨e1, s', e2, e3⟩ => ⟨e1, s', e2, ?_⟩
 exact GL.ofPost x y d e3.fine e3.done
theorem GL.add {p : GP} {w : World} {kb : List KB} {s : St} (h : GL p w kb s) {b : Nat} {cs : Array Value} {T : TypeId} (hb : w.heap[b]? = some (.cells cs T (0, 0))) (h1 : T ≠ 58 := by decide) (h2 : T ≠ 4 := by decide) (h3 : T ≠ 3 := by decide) : GL p w ((b, cs, T) :: kb) s := by
 obtain ⟨tvc, x, y, z, d⟩ := h
 refine ⟨tvc, x, y, z, fun q hq => ?_⟩
 rcases List.mem_cons.1 hq with e | e
 ·subst e; exact ⟨hb, h1, h2, h3⟩
 ·exact d q e
theorem GL.needs {p : GP} {w : World} {kb : List KB} {s : St} (h : GL p w kb s) : w.cell? ⟨p.g, 2, none⟩ = some p.nv ∧ Kd.R Kd.bool 4 w p.w0.heap.size (fun _ => True) p.nv s.1 := by
 obtain ⟨tvc, x, _⟩ := h
 exact ⟨blk_cell x.blk 2, x.n⟩
def more1 (th : List S43) (s : St) (h : Int) : St := if 1 ≤ h ∧ h ≤ th.length then forceF (needF th s.1 s.2 (rd_T43 th (h - 1)).f0 h).1 (needF th s.1 s.2 (rd_T43 th (h - 1)).f0 h).2 h else s
def rootsF (th : List S43) (rt : List S40) : St := rt.foldl (fun s v => needF th s.1 s.2 v.f0 v.f1) (List.replicate th.length false, [])
def startF (th : List S43) (rt : List S40) (mo : List Int) : St := mo.foldl (more1 th) (rootsF th rt)
def StrongR (th : List S43) (rt : List S40) (mo : List Int) (r : List Bool) : Prop := ∃ s', Spr th (startF th rt mo) s' ∧ s'.1 = r
theorem fine0 (th : List S43) : Fine th (List.replicate th.length false, []) := ⟨by simp, by simp, fun h hh => nomatch hh⟩
set_option maxHeartbeats 16000000 in
set_option maxRecDepth 100000 in
theorem strong_calls (W : World) (A0 : Option Addr) (c0 : Nat) (th : List S43) (A1 : Option Addr) (c1 : Nat) (rt : List S40) (h0 : Kd.C k43 W A0 th.length th) (h1 : Kd.C k40 W A1 rt.length rt) (hm : th.length ≤ 1000000) (hsl : ∀ t ∈ th, t.f3.length ≤ 1000000) (hrl : rt.length ≤ 1000000)
  (A2 : Option Addr) (c2 : Nat) (mo : List Int) (h2 : Kd.C (Kd.int .i64) W A2 mo.length mo) (hml : mo.length ≤ 1000000) :
  Calls Try.prog 13 #[.agg #[.slice A0 th.length c0, .slice A1 rt.length c1], .slice A2 mo.length c2] W fun e W' => ∃ nv r, e = .returned nv ∧ StrongR th rt mo r ∧ Kd.R Kd.bool 4 W' W.heap.size (fun _ => True) nv r ∧ Below W.heap.size W W' := by
 have HM := Aside0.mk hm
 have HSL := Aside0.mk hsl
 have HRL := Aside0.mk hrl
 have HML := Aside0.mk hml
 have HB0 := Aside0.mk (below_alloc (Below.refl W.heap.size W) (.cells #[.slice A0 th.length c0, .slice A1 rt.length c1] 25))
 have H2 := Aside0.mk h2
 have O0 := Aside0.mk (Kd.C_below h0 HB0.out)
 have O1 := Aside0.mk (Kd.C_below h1 HB0.out)
 have BX := Aside0.mk (alloc_at W (.cells #[.slice A0 th.length c0, .slice A1 rt.length c1] 25))
 clear hm hsl hrl hml h0 h1 h2
 go_enter Try.func13, Try.ntmps13
 go_wp2_with (first | (go_at_call 27; (with_reducible refine (open_calls _ A0 c0 th A1 c1 rt O0.out O1.out HM.out).mono ?_); rintro e w2 ⟨g, nv, rfl, hg⟩; have HG := Aside0.mk ((GL.start (p := (⟨W.alloc (.cells #[.slice A0 th.length c0, .slice A1 rt.length c1] 25), w2, g, A0, c0, th, A1, c1, rt, nv, .slice none 0 0⟩ : GP)) (s := (List.replicate th.length false, [])) hg (fine0 th)).add (b := W.heap.size) (blk_below BX.out hg.b)); clear hg; have q0 : w2.cell? ⟨W.heap.size, 0, none⟩ = some (.slice A0 th.length c0) := blk_cell (HG.out.blk (b := W.heap.size) (cs := #[.slice A0 th.length c0, .slice A1 rt.length c1]) (T := 25) (List.Mem.head _)) 0; have q1 : w2.cell? ⟨W.heap.size, 1, none⟩ = some (.slice A1 rt.length c1) := blk_cell (HG.out.blk (b := W.heap.size) (cs := #[.slice A0 th.length c0, .slice A1 rt.length c1]) (T := 25) (List.Mem.head _)) 1))
 clear q0 q1
 go_loopg [15] rt.length (fun kq v w' => ∃ (j : Nat) (i : Int), v = .int .i64 i ∧ Aside0 (i = j) ∧ Aside0 (j + kq = rt.length) ∧ Aside0 (GL (⟨W.alloc (.cells #[.slice A0 th.length c0, .slice A1 rt.length c1] 25), w2, g, A0, c0, th, A1, c1, rt, nv, .slice none 0 0⟩ : GP) w' [(W.heap.size, #[.slice A0 th.length c0, .slice A1 rt.length c1], 25)] ((rt.take j).foldl (fun s v => needF th s.1 s.2 v.f0 v.f1) (List.replicate th.length false, []))))
 case atStart => exact ⟨0, 0, rfl, ⟨rfl⟩, ⟨by omega⟩, HG⟩
 case round =>
  obtain ⟨j, i, hv, IJ, JK, HG2⟩ := hrel
  subst hv
  clear HG
  have HG := HG2
  clear HG2
  have ij := IJ.out
  have jk := JK.out
  have hl := HRL.out
  rcases gk with _ | gk
  ·have ct1 : decide (i < (rt.length : Int)) = false := decide_eq_false (by omega)
   have JE := Aside0.mk (show j = rt.length by omega)
   clear ij jk hl
   go_wp2
   have HG2 : Aside0 (GL (⟨W.alloc (.cells #[.slice A0 th.length c0, .slice A1 rt.length c1] 25), w2, g, A0, c0, th, A1, c1, rt, nv, .slice none 0 0⟩ : GP) wr [(W.heap.size, #[.slice A0 th.length c0, .slice A1 rt.length c1], 25)] (rootsF th rt)) := ⟨by have h := HG.out; rw [JE.out, List.take_length] at h; exact h⟩
   clear HG
   have HG := HG2
   clear HG2
   go_loopg [25] mo.length (fun kq v w' => ∃ (j : Nat) (i : Int), v = .int .i64 i ∧ Aside0 (i = j) ∧ Aside0 (j + kq = mo.length) ∧ Aside0 (GL (⟨W.alloc (.cells #[.slice A0 th.length c0, .slice A1 rt.length c1] 25), w2, g, A0, c0, th, A1, c1, rt, nv, .slice none 0 0⟩ : GP) w' [(W.heap.size, #[.slice A0 th.length c0, .slice A1 rt.length c1], 25)] ((mo.take j).foldl (more1 th) (rootsF th rt))))
   case atStart => exact ⟨0, 0, rfl, ⟨rfl⟩, ⟨by omega⟩, HG⟩
   case round =>
    obtain ⟨j, i, hv, IJ, JK, HG2⟩ := hrel
    subst hv
    clear HG
    have HG := HG2
    clear HG2
    have ij := IJ.out
    have jk := JK.out
    have hl := HML.out
    rcases gk with _ | gk
    ·have ct2 : decide (i < (mo.length : Int)) = false := decide_eq_false (by omega)
     have JE2 := Aside0.mk (show j = mo.length by omega)
     clear ij jk hl
     go_wp2_with (first | (go_at_call 30; (with_reducible refine (HG.out.spread (Below.refl _ _) HM.out HSL.out).mono ?_); rintro e w4 ⟨rfl, s', h4, h5⟩; have SP := Aside0.mk h4; have HN := Aside0.mk h5; clear h4 h5; have g2 : w4.cell? ⟨g, 2, none⟩ = some nv := HN.out.needs.1))
     go_ret
     have hs := SP.out
     rw [JE2.out, List.take_length] at hs
     exact ⟨_, _, rfl, ⟨s', hs, rfl⟩, Kd.R_lower HN.out.needs.2 HB0.out.size, below_step HB0.out HN.out.base⟩
    ·have i0 : 0 ≤ i := by omega
     have i1 : i < (mo.length : Int) := by omega
     obtain ⟨i2, hi2⟩ : ∃ x : Int, i + 1 = x := ⟨_, rfl⟩
     have ew2 : IntKind.i64.wrap (i + 1) = i2 := (i64_w _).trans ((w64i_ (by omega) (by omega)).trans hi2)
     have ct2 : decide (i < (mo.length : Int)) = true := decide_eq_true i1
     obtain ⟨ad2, e2, m0⟩ := Kd.at_int (Kd.C_below H2.out (below_step HB0.out HG.out.base)) i i0 i1
     subst e2
     have JL := Aside0.mk (show j < mo.length by omega)
     have I2 := Aside0.mk hi2
     obtain ⟨h, hh⟩ : ∃ h, rd mo i = h := ⟨_, rfl⟩
     rw [hh] at m0
     have HH := Aside0.mk (show mo[j]'JL.out = h by
      rw [← hh, ij]
      unfold rd
      rw [Int.toNat_natCast, List.getD_eq_getElem?_getD, List.getElem?_eq_getElem JL.out]
      rfl)
     have q0 : wr.cell? ⟨W.heap.size, 0, none⟩ = some (.slice A0 th.length c0) := blk_cell (HG.out.blk (b := W.heap.size) (cs := #[.slice A0 th.length c0, .slice A1 rt.length c1]) (T := 25) (List.Mem.head _)) 0
     have q1 : wr.cell? ⟨W.heap.size, 1, none⟩ = some (.slice A1 rt.length c1) := blk_cell (HG.out.blk (b := W.heap.size) (cs := #[.slice A0 th.length c0, .slice A1 rt.length c1]) (T := 25) (List.Mem.head _)) 1
     replace i0 := eq_true i0
     replace i1 := eq_true i1
     clear ij jk hl hi2 hh
     by_cases ch : 1 ≤ h ∧ h ≤ th.length
     ·have CH := Aside0.mk ch
      have d1 : decide (h ≥ 1) = true := decide_eq_true ch.1
      have d2 : decide (h ≤ (th.length : Int)) = true := decide_eq_true ch.2
      obtain ⟨hi, hhi⟩ : ∃ x : Int, h - 1 = x := ⟨_, rfl⟩
      have hm := HM.out
      have ew : IntKind.i64.wrap (h - 1) = hi := (i64_w _).trans ((w64i_ (by omega) (by omega)).trans hhi)
      have p0 : 0 ≤ hi := by omega
      have p1 : hi < th.length := by omega
      obtain ⟨ad, A3, c3, hA, x0, x1, x2, x3, x4, hC⟩ := HG.out.thing hi p0 p1
      replace hA : A0 = some ad := hA
      subst hA
      replace x0 : wr.cell? (ad.add (hi.toNat * 5)) = some (.int .i64 (rd_T43 th hi).f0) := x0
      have HHI := Aside0.mk hhi
      replace p0 := eq_true p0
      replace p1 := eq_true p1
      clear ch hm x1 x2 x3 x4 hC hhi
      go_wp2_with (first | (go_at_call 28; (with_reducible refine (HG.out.need (Below.refl _ _) HM.out _ _).mono ?_); rintro e w3 ⟨rfl, h3⟩; clear q0 q1 x0; have HN := Aside0.mk h3; clear h3) | (go_at_call 29; (with_reducible refine (HN.out.force (Below.refl _ _) HM.out h CH.out.1 CH.out.2).mono ?_); rintro e w4 ⟨rfl, h4⟩; have HF := Aside0.mk h4; clear h4))
      go_roundg gk
      case measure => omega
      case rel =>
       refine ⟨j + 1, _, rfl, ⟨by have := IJ.out; have := I2.out; omega⟩, ⟨by have := JK.out; omega⟩, ⟨?_⟩⟩
       rw [List.take_add_one, List.foldl_append, List.getElem?_eq_getElem JL.out, HH.out]
       have hf := HF.out
       show GL _ _ _ (more1 th _ h)
       unfold more1
       rw [if_pos CH.out, HHI.out]
       exact hf
     ·have CH := Aside0.mk ch
      have fin : ∀ (gk' : Nat), GL (⟨W.alloc (.cells #[.slice A0 th.length c0, .slice A1 rt.length c1] 25), w2, g, A0, c0, th, A1, c1, rt, nv, .slice none 0 0⟩ : GP) wr [(W.heap.size, #[.slice A0 th.length c0, .slice A1 rt.length c1], 25)] ((mo.take (j + 1)).foldl (more1 th) (rootsF th rt)) := by
       intro _
       rw [List.take_add_one, List.foldl_append, List.getElem?_eq_getElem JL.out, HH.out]
       show GL _ _ _ (more1 th _ h)
       unfold more1
       rw [if_neg CH.out]
       exact HG.out
      have FN := Aside0.mk fin
      clear fin
      by_cases cn1 : 1 ≤ h
      ·have d1 : decide (h ≥ 1) = true := decide_eq_true cn1
       have d2 : decide (h ≤ (th.length : Int)) = false := decide_eq_false (fun z => ch ⟨cn1, z⟩)
       clear ch cn1
       go_wp2
       go_roundg gk
       case measure => omega
       case rel => exact ⟨j + 1, _, rfl, ⟨by have := IJ.out; have := I2.out; omega⟩, ⟨by have := JK.out; omega⟩, ⟨FN.out 0⟩⟩
      ·have d1 : decide (h ≥ 1) = false := decide_eq_false cn1
       clear ch cn1
       go_wp2
       go_roundg gk
       case measure => omega
       case rel => exact ⟨j + 1, _, rfl, ⟨by have := IJ.out; have := I2.out; omega⟩, ⟨by have := JK.out; omega⟩, ⟨FN.out 0⟩⟩
  ·have i0 : 0 ≤ i := by omega
   have i1 : i < (rt.length : Int) := by omega
   obtain ⟨i2, hi2⟩ : ∃ x : Int, i + 1 = x := ⟨_, rfl⟩
   have ew2 : IntKind.i64.wrap (i + 1) = i2 := (i64_w _).trans ((w64i_ (by omega) (by omega)).trans hi2)
   have ct1 : decide (i < (rt.length : Int)) = true := decide_eq_true i1
   obtain ⟨ad3, e3, y0, y1⟩ := at_T40 (Kd.C_below O1.out HG.out.base) i i0 i1
   subst e3
   have HB := Aside0.mk (HG.out.box #[.int .i64 (rd_T40 rt i).f0, .int .i64 (rd_T40 rt i).f1] 40)
   have JL := Aside0.mk (show j < rt.length by omega)
   have I2 := Aside0.mk hi2
   replace i0 := eq_true i0
   replace i1 := eq_true i1
   clear ij jk hl hi2
   go_wp2_with (first | (go_at_call 28; (with_reducible refine (HB.out.need (Below.refl _ _) HM.out _ _).mono ?_); rintro e w3 ⟨rfl, h3⟩; have HN := Aside0.mk h3; clear h3))
   go_roundg gk
   case measure => omega
   case rel =>
    refine ⟨j + 1, _, rfl, ⟨by have := IJ.out; have := I2.out; omega⟩, ⟨by have := JK.out; omega⟩, ⟨?_⟩⟩
    have hh := HN.out.drop
    have e1 : i = j := IJ.out
    subst e1
    rw [List.take_add_one, List.foldl_append, List.getElem?_eq_getElem JL.out]
    have e2 : rd_T40 rt (j : Int) = rt[j]'JL.out := by
     unfold rd_T40
     rw [Int.toNat_natCast, List.getD_eq_getElem?_getD, List.getElem?_eq_getElem JL.out]
     rfl
    rw [e2] at hh
    exact hh
end Go.Proofs.Ytollnnbcfhnlfaa.Rg

/- reach: Right's closure, walked. -/
set_option linter.unusedVariables false
set_option linter.unusedSimpArgs false
namespace Go.Proofs.Ytollnnbcfhnlfaa.Rg
open Go.RowKit Go.Proofs.Ytollnnbcfhnlfaa.QR Go.Proofs.YtollnnbcfhnlfaaW.PrintWords Go.Proofs.YtollnnbcfhnlfaaW.PrintLast Go.Proofs.YtollnnbcfhnlfaaW.PrintMore
def fineV (th : List S43) (v : S40) : Bool := !(decide (4 ≤ v.f0) && decide (v.f0 ≤ 9) && (objF th v.f0 v.f1 == 0))
def fineL (th : List S43) (l : List S40) : Bool := l.all (fineV th)
theorem rd40_get {l : List S40} {j : Nat} (h : j < l.length) : rd_T40 l (j : Int) = l[j] := by
 unfold rd_T40
 rw [Int.toNat_natCast, List.getD_eq_getElem?_getD, List.getElem?_eq_getElem h]
 rfl
theorem rd43_get {l : List S43} {j : Nat} (h : j < l.length) : rd_T43 l (j : Int) = l[j] := by
 unfold rd_T43
 rw [Int.toNat_natCast, List.getD_eq_getElem?_getD, List.getElem?_eq_getElem h]
 rfl
set_option maxHeartbeats 16000000 in
set_option maxRecDepth 100000 in
theorem fine_calls (W : World) (g gb : Nat) (A0 : Option Addr) (c0 : Nat) (th : List S43) (hg : W.cell? ⟨g, 0, none⟩ = some (.slice A0 th.length c0)) (hC : Kd.C k43 W A0 th.length th) (hgb : W.cell? ⟨gb, 0, none⟩ = some (.pointer (some ⟨g, 0, none⟩))) (hm : th.length ≤ 1000000)
  (A : Option Addr) (c : Nat) (l : List S40) (hl : Kd.C k40 W A l.length l) (hll : l.length ≤ 1000000) :
  Calls Try.prog 32 #[.slice A l.length c, .pointer (some ⟨gb, 0, none⟩)] W fun e W' => e = .returned (.bool (fineL th l)) ∧ Below W.heap.size W W' := by
 have HG := Aside0.mk hg
 have HC := Aside0.mk hC
 have HGB := Aside0.mk hgb
 have HM := Aside0.mk hm
 have HL := Aside0.mk hl
 have HLL := Aside0.mk hll
 clear hg hC hgb hm hl hll
 go_enter Try.func32, Try.ntmps32
 go_wp2
 go_loopg [8] l.length (fun kq v w' => ∃ (j : Nat) (i : Int), v = .int .i64 i ∧ Aside0 (i = j) ∧ Aside0 (j + kq = l.length) ∧ Aside0 ((l.take j).all (fineV th) = true) ∧ Aside0 (Below W.heap.size W w'))
 case atStart => exact ⟨0, 0, rfl, ⟨rfl⟩, ⟨by omega⟩, ⟨by simp⟩, ⟨Below.refl _ _⟩⟩
 case round =>
  obtain ⟨j, i, hv, IJ, JK, AL, HB⟩ := hrel
  subst hv
  have ij := IJ.out
  have jk := JK.out
  have hll := HLL.out
  rcases gk with _ | gk
  ·have ct1 : decide (i < (l.length : Int)) = false := decide_eq_false (by omega)
   have JE := Aside0.mk (show j = l.length by omega)
   clear ij jk hll
   go_wp2
   go_ret
   have h := AL.out
   rw [JE.out, List.take_length] at h
   exact ⟨by rw [fineL, h]; rfl, HB.out⟩
  ·have i0 : 0 ≤ i := by omega
   have i1 : i < (l.length : Int) := by omega
   obtain ⟨i2, hi2⟩ : ∃ x : Int, i + 1 = x := ⟨_, rfl⟩
   have ew2 : IntKind.i64.wrap (i + 1) = i2 := (i64_w _).trans ((w64i_ (by omega) (by omega)).trans hi2)
   have ct1 : decide (i < (l.length : Int)) = true := decide_eq_true i1
   obtain ⟨ad, e3, x0, x1⟩ := at_T40 (Kd.C_below HL.out HB.out) i i0 i1
   subst e3
   obtain ⟨v, hv⟩ : ∃ v, rd_T40 l i = v := ⟨_, rfl⟩
   rw [hv] at x0 x1
   have JL := Aside0.mk (show j < l.length by omega)
   have I2 := Aside0.mk hi2
   have HV := Aside0.mk (show l[j]'JL.out = v by rw [← hv, ij, rd40_get JL.out])
   have HB2 := Aside0.mk (below_alloc HB.out (.cells #[.int .i64 v.f0, .int .i64 v.f1] 40))
   have z0 : (wr.alloc (.cells #[.int .i64 v.f0, .int .i64 v.f1] 40)).cell? ⟨gb, 0, none⟩ = some (.pointer (some ⟨g, 0, none⟩)) := (HB2.out.cell (cell_lt HGB.out)).trans HGB.out
   obtain ⟨ob, hob⟩ : ∃ ob, objF th v.f0 v.f1 = ob := ⟨_, rfl⟩
   have HO := Aside0.mk hob
   have BAD : Aside0 (fineV th v = false → fineL th l = false) := ⟨fun h => by
    unfold fineL
    rw [List.all_eq_false]
    exact ⟨v, by rw [← HV.out]; exact List.getElem_mem _, by simp [h]⟩⟩
   have GOOD : Aside0 (fineV th v = true → (l.take (j + 1)).all (fineV th) = true) := ⟨fun h => by
    rw [List.take_add_one, List.all_append, AL.out, List.getElem?_eq_getElem JL.out, HV.out]
    simp [h]⟩
   replace i0 := eq_true i0
   replace i1 := eq_true i1
   clear ij jk hll hi2 hv hob
   by_cases d1 : 4 ≤ v.f0
   ·have e1 : decide (v.f0 ≥ 4) = true := decide_eq_true d1
    have D1 := Aside0.mk d1
    clear d1
    by_cases d2 : v.f0 ≤ 9
    ·have e2 : decide (v.f0 ≤ 9) = true := decide_eq_true d2
     have D2 := Aside0.mk d2
     clear d2
     by_cases d3 : ob = 0
     ·have e3 : (ob == 0) = true := beq_iff_eq.mpr d3
      have D3 := Aside0.mk d3
      clear d3
      go_wp2_with (first | (go_at_call 33; (with_reducible refine (object_calls _ g A0 c0 th ((HB2.out.cell (cell_lt HG.out)).trans HG.out) (Kd.C_below HC.out HB2.out) _ _ HM.out).mono ?_); rintro e w2 ⟨rfl, h2⟩; rw [HO.out]; have HB3 := Aside0.mk (below_step HB2.out h2); clear h2 z0))
      go_ret
      exact ⟨by rw [BAD.out (by simp [fineV, D1.out, D2.out, HO.out, D3.out])]; rfl, HB3.out⟩
     ·have e3 : (ob == 0) = false := beq_eq_false_iff_ne.mpr d3
      have D3 := Aside0.mk d3
      clear d3
      go_wp2_with (first | (go_at_call 33; (with_reducible refine (object_calls _ g A0 c0 th ((HB2.out.cell (cell_lt HG.out)).trans HG.out) (Kd.C_below HC.out HB2.out) _ _ HM.out).mono ?_); rintro e w2 ⟨rfl, h2⟩; rw [HO.out]; have HB3 := Aside0.mk (below_step HB2.out h2); clear h2 z0))
      go_roundg gk
      case measure => omega
      case rel => exact ⟨j + 1, _, rfl, ⟨by have := IJ.out; have := I2.out; omega⟩, ⟨by have := JK.out; omega⟩, ⟨GOOD.out (by simp [fineV, HO.out, D3.out])⟩, HB3⟩
    ·have e2 : decide (v.f0 ≤ 9) = false := decide_eq_false d2
     have D2 := Aside0.mk d2
     clear d2
     go_wp2
     go_roundg gk
     case measure => omega
     case rel => exact ⟨j + 1, _, rfl, ⟨by have := IJ.out; have := I2.out; omega⟩, ⟨by have := JK.out; omega⟩, ⟨GOOD.out (by simp [fineV, D2.out])⟩, HB2⟩
   ·have e1 : decide (v.f0 ≥ 4) = false := decide_eq_false d1
    have D1 := Aside0.mk d1
    clear d1
    go_wp2
    go_roundg gk
    case measure => omega
    case rel => exact ⟨j + 1, _, rfl, ⟨by have := IJ.out; have := I2.out; omega⟩, ⟨by have := JK.out; omega⟩, ⟨GOOD.out (by simp [fineV, D1.out])⟩, HB2⟩
end Go.Proofs.Ytollnnbcfhnlfaa.Rg

/- reach: Right, walked. -/
set_option linter.unusedVariables false
set_option linter.unusedSimpArgs false
namespace Go.Proofs.Ytollnnbcfhnlfaa.Rg
open Go.RowKit Go.Proofs.Ytollnnbcfhnlfaa.QR Go.Proofs.YtollnnbcfhnlfaaW.PrintWords Go.Proofs.YtollnnbcfhnlfaaW.PrintLast Go.Proofs.YtollnnbcfhnlfaaW.PrintMore Go.Proofs.Ytollnnbcfhnlfaa.Mp Go.Maps
/-- what Right asks of one thing, the finalisers of the earlier ones being known -/
def okP (th : List S43) (seen : List Int) (t : S43) : Prop := ¬ (t.f0 < 4 ∨ 9 < t.f0 ∨ t.f1 < 0 ∨ 3 < t.f1 ∨ t.f2 < 0 ∨ t.f4 < 0 ∨ (t.f0 ≠ 5 ∧ (t.f1 ≠ 0 ∨ t.f4 ≠ 0))) ∧ ¬ (0 < t.f2 ∧ (t.f3.length : Int) ≤ t.f2) ∧ ¬ (0 < t.f4 ∧ t.f4 ∈ seen) ∧ fineL th t.f3 = true
def okAll (th : List S43) : List S43 → List Int → Prop
 | [], _ => True
 | t :: ts, seen => okP th seen t ∧ okAll th ts (seen ++ [t.f4])
def RightP (th : List S43) (rt : List S40) : Prop := okAll th th [] ∧ fineL th rt = true
theorem lookup0 {P : Program} {w : World} {k e t : TypeId} {b : Nat} {m : Value → Option Value} (h : MapIs w P k b m) (K : Keyed P k) (ht : P.underlying t = some (.map k e)) {z : Value} (hz : ∀ w, (zeroValue e).run P w = .ok z w) {key : Value} {l : Lit} (hkey : keyOf P k key = some l) :
  (Instr.lookup t (.map (some b)) key false).run P w = .ok ((m key).getD z) w := by
 obtain ⟨es, c, hb, hk, hp, hm⟩ := h.ex
 have hc := K.check w es.isEmpty hkey
 rcases K.find w hkey es.toList hk with ⟨hf, hn⟩ | ⟨j, e', hf, hj, he⟩
 ·have e0 : m key = none := by
   cases hv : m key with
   | none => rfl
   | some v => obtain ⟨x, hx, hx1, _⟩ := (hm key v).1 hv; exact absurd hx1 (hn x hx)
  rw [e0]
  simp [Instr.lookup, run_underlying ht, MapKept.run_getObj_map hb, hc, hf, Result.andThen, hz]
 ·have e0 : m key = some e'.val := (hm key e'.val).2 ⟨e', List.mem_of_getElem? hj, he, rfl⟩
  rw [e0]
  simp [Instr.lookup, run_underlying ht, MapKept.run_getObj_map hb, hc, hf, Result.andThen]
/-- the map of the finalisers that were met -/
noncomputable def mOf (l : List Int) : Value → Option Value := l.foldl (fun m x => put m (.int .i64 x) (.bool true)) (fun _ => none)
theorem mOf_snoc (l : List Int) (x : Int) : mOf (l ++ [x]) = put (mOf l) (.int .i64 x) (.bool true) := by simp [mOf, List.foldl_append]
theorem mOf_aux (l : List Int) : ∀ (m : Value → Option Value) (s : List Int), (∀ x : Int, (m (.int .i64 x)).getD (.bool false) = .bool (decide (x ∈ s))) → ∀ x : Int, (l.foldl (fun m x => put m (.int .i64 x) (.bool true)) m (.int .i64 x)).getD (.bool false) = .bool (decide (x ∈ s ++ l)) := by
 induction l with
 | nil => intro m s h x; rw [List.append_nil]; exact h x
 | cons y l ih =>
  intro m s h x
  have := ih (put m (.int .i64 y) (.bool true)) (s ++ [y]) (fun z => by
   by_cases hz : z = y
   ·subst hz
    rw [put_same]
    simp
   ·rw [put_ne (fun q => hz (by injection q)), h z]
    congr 1
    simp [hz]) x
  rw [List.append_assoc] at this
  exact this
theorem mOf_get (l : List Int) (x : Int) : (mOf l (.int .i64 x)).getD (.bool false) = .bool (decide (x ∈ l)) := by
 have := mOf_aux l (fun _ => none) [] (fun _ => rfl) x
 rwa [List.nil_append] at this
def RightPost (W : World) (th : List S43) (rt : List S40) (e : Ending) (W' : World) : Prop := ∃ r, e = .returned (.bool r) ∧ (r = true ↔ RightP th rt) ∧ Below W.heap.size W W'
theorem key3 (n : Int) (h : (Lit.int .i64 n).wf = true) : keyOf Try.prog 3 (.int .i64 n) = some (.int .i64 n) := Maps.keyOf_int_mk Try.underlying3 h
theorem mapApart {w : World} {P : Program} {k : TypeId} {b : Nat} {m : Value → Option Value} (h : MapIs w P k b m) {g : Nat} {cs : Array Value} {T : TypeId} (hg : w.heap[g]? = some (.cells cs T (0, 0))) : g ≠ b := by
 obtain ⟨es, c, hb, _⟩ := h.ex
 rintro rfl
 rw [hg] at hb
 cases hb
set_option maxHeartbeats 40000000 in
set_option maxRecDepth 100000 in
theorem right_calls (W : World) (A0 : Option Addr) (c0 : Nat) (th : List S43) (A1 : Option Addr) (c1 : Nat) (rt : List S40) (h0 : Kd.C k43 W A0 th.length th) (h1 : Kd.C k40 W A1 rt.length rt) (hm : th.length ≤ 1000000) (hsl : ∀ t ∈ th, t.f3.length ≤ 1000000) (hrl : rt.length ≤ 1000000) (hwf : ∀ t ∈ th, (Lit.int .i64 t.f4).wf = true) :
  Calls Try.prog 15 #[.agg #[.slice A0 th.length c0, .slice A1 rt.length c1]] W (RightPost W th rt) := by
 have HM := Aside0.mk hm
 have HSL := Aside0.mk hsl
 have HRL := Aside0.mk hrl
 have HWF := Aside0.mk hwf
 have HB0 := Aside0.mk (below_alloc (Below.refl W.heap.size W) (.cells #[.slice A0 th.length c0, .slice A1 rt.length c1] 25))
 have H0 := Aside0.mk h0
 have H1 := Aside0.mk h1
 have BX := Aside0.mk (alloc_at W (.cells #[.slice A0 th.length c0, .slice A1 rt.length c1] 25))
 have hz4 : ∀ w, (zeroValue 4).run Try.prog w = .ok (.bool false) w := fun w => by go_simp
 have HZ4 := Aside0.mk hz4
 have hmf : ∀ (fn : Fn) (first cap : Array Value) (w : World), (Instr.makeFunc fn first cap).run Try.prog w = .ok (.func fn first cap) w := fun _ _ _ _ => rfl
 have hmm := @run_makeMap Try.prog
 clear hm hsl hrl h0 h1 hwf hz4
 go_enter Try.func15, Try.ntmps15
 go_wp2_with (first | (go_at_call 27; (with_reducible refine (open_calls _ A0 c0 th A1 c1 rt (Kd.C_below H0.out HB0.out) (Kd.C_below H1.out HB0.out) HM.out).mono ?_); rintro e w2 ⟨g, nv, rfl, hg⟩; have HG := Aside0.mk hg; clear hg; have q0 : ((w2.alloc (.cells #[.pointer (some ⟨g, 0, none⟩)] 53)).alloc (.map #[] 0)).cell? ⟨W.heap.size, 0, none⟩ = some (.slice A0 th.length c0) := blk_cell (blk_alloc (blk_alloc (blk_below BX.out HG.out.b) _) _) 0))
 have es : (w2.alloc (.cells #[.pointer (some ⟨g, 0, none⟩)] 53)).heap.size = w2.heap.size + 1 := by simp
 have mb0 := MapIs.made (P := Try.prog) (w2.alloc (.cells #[.pointer (some ⟨g, 0, none⟩)] 53)) 3
 rw [es] at mb0
 have HMB := Aside0.mk mb0
 have HBW := Aside0.mk (below_alloc (below_alloc (below_step HB0.out HG.out.b) (.cells #[.pointer (some ⟨g, 0, none⟩)] 53)) (.map #[] 0))
 have MB := Aside0.mk (show W.heap.size ≤ w2.heap.size + 1 by have := HB0.out.size; have := HG.out.b.size; omega)
 clear q0 mb0 es hmm
 go_loopg [15] th.length (fun kq v w' => ∃ (j : Nat) (i : Int), v = .int .i64 i ∧ Aside0 (i = j) ∧ Aside0 (j + kq = th.length) ∧ Aside0 (Below W.heap.size W w') ∧ Aside0 (MapIs w' Try.prog 3 (w2.heap.size + 1) (mOf ((th.take j).map (·.f4)))) ∧ Aside0 (w'.heap[g]? = some (.cells #[.slice A0 th.length c0, .slice A1 rt.length c1, nv, .slice none 0 0] 58 (0, 0))) ∧ Aside0 (w'.heap[w2.heap.size]? = some (.cells #[.pointer (some ⟨g, 0, none⟩)] 53 (0, 0))) ∧ Aside0 (w'.heap[W.heap.size]? = some (.cells #[.slice A0 th.length c0, .slice A1 rt.length c1] 25 (0, 0))) ∧ Aside0 (RightP th rt ↔ okAll th (th.drop j) ((th.take j).map (·.f4)) ∧ fineL th rt = true))
 case atStart => exact ⟨0, 0, rfl, ⟨rfl⟩, ⟨by omega⟩, HBW, HMB, ⟨blk_alloc (blk_alloc HG.out.blk _) _⟩, ⟨blk_alloc (alloc_at _ _) _⟩, ⟨blk_alloc (blk_alloc (blk_below BX.out HG.out.b) _) _⟩, ⟨Iff.rfl⟩⟩
 case round =>
  obtain ⟨j, i, hv, IJ, JK, HB, HMA, HGK, HGB, HBX, RR⟩ := hrel
  subst hv
  have ij := IJ.out
  have jk := JK.out
  have hll := HM.out
  rcases gk with _ | gk
  ·have ct1 : decide (i < (th.length : Int)) = false := decide_eq_false (by omega)
   have JE := Aside0.mk (show j = th.length by omega)
   have q1 : wr.cell? ⟨W.heap.size, 1, none⟩ = some (.slice A1 rt.length c1) := blk_cell HBX.out 1
   clear ij jk hll
   go_wp2_with (first | (go_at_call 32; (refine (fine_calls _ g w2.heap.size A0 c0 th (blk_cell HGK.out 0) (Kd.C_below H0.out HB.out) (blk_cell HGB.out 0) HM.out A1 c1 rt (Kd.C_below H1.out HB.out) HRL.out).mono ?_); rintro e w4 ⟨rfl, h4⟩; have HB4 := Aside0.mk (below_step HB.out h4); clear h4))
   go_ret
   refine ⟨_, rfl, ?_, HB4.out⟩
   have h := RR.out
   rw [JE.out, List.drop_length] at h
   rw [h]
   simp [okAll]
  ·have i0 : 0 ≤ i := by omega
   have i1 : i < (th.length : Int) := by omega
   obtain ⟨i2, hi2⟩ : ∃ x : Int, i + 1 = x := ⟨_, rfl⟩
   have ew2 : IntKind.i64.wrap (i + 1) = i2 := (i64_w _).trans ((w64i_ (by omega) (by omega)).trans hi2)
   have ct1 : decide (i < (th.length : Int)) = true := decide_eq_true i1
   obtain ⟨ad, A3, c3, hA, x0, x1, x2, x3, x4, hl3, hC⟩ := at_T43 H0.out i i0 i1
   subst hA
   have JL := Aside0.mk (show j < th.length by omega)
   have et : rd_T43 th i = th[j]'JL.out := by rw [ij, rd43_get JL.out]
   obtain ⟨t, ht⟩ : ∃ t, rd_T43 th i = t := ⟨_, rfl⟩
   rw [ht] at x0 x1 x2 x3 x4 hC et
   have TM := Aside0.mk (show t ∈ th by rw [et]; exact List.getElem_mem _)
   have tr : ∀ {q : Addr} {v : Value}, W.cell? q = some v → wr.cell? q = some v := fun hq => (HB.out.cell (cell_lt hq)).trans hq
   replace x0 := tr x0
   replace x1 := tr x1
   replace x2 := tr x2
   replace x3 := tr x3
   replace x4 := tr x4
   have HC3 := Aside0.mk hC
   have HT3 := Aside0.mk (HSL.out t TM.out)
   have I2 := Aside0.mk hi2
   have HB2 := Aside0.mk (below_alloc HB.out (.cells #[.int .i64 t.f0, .int .i64 t.f1, .int .i64 t.f2, .slice A3 t.f3.length c3, .int .i64 t.f4] 43))
   obtain ⟨seen, hseen⟩ : ∃ seen, (th.take j).map (·.f4) = seen := ⟨_, rfl⟩
   have hma := HMA.out
   rw [hseen] at hma
   have m0 : MapIs (wr.alloc (.cells #[.int .i64 t.f0, .int .i64 t.f1, .int .i64 t.f2, .slice A3 t.f3.length c3, .int .i64 t.f4] 43)) Try.prog 3 (w2.heap.size + 1) (mOf seen) := hma.kept (Below.heap_alloc _ _ _ hma.lt)
   have HK := Aside0.mk (key3 t.f4 (HWF.out t TM.out))
   have hlk := lookup0 m0 (Maps.int_keyed Try.underlying3) Try.underlying60 HZ4.out HK.out
   rw [mOf_get] at hlk
   have HMA' := Aside0.mk m0
   have SN := Aside0.mk (show (th.take (j + 1)).map (·.f4) = seen ++ [t.f4] by rw [List.take_add_one, List.map_append, hseen, List.getElem?_eq_getElem JL.out, ← et]; rfl)
   have NX := Aside0.mk (show (RightP th rt → okP th seen t ∧ okAll th (th.drop (j + 1)) (seen ++ [t.f4])) ∧ (okP th seen t → (RightP th rt ↔ okAll th (th.drop (j + 1)) (seen ++ [t.f4]) ∧ fineL th rt = true)) by
    have h := RR.out
    rw [hseen, List.drop_eq_getElem_cons JL.out, ← et] at h
    have h2 : okAll th (t :: th.drop (j + 1)) seen ↔ okP th seen t ∧ okAll th (th.drop (j + 1)) (seen ++ [t.f4]) := Iff.rfl
    rw [h2] at h
    exact ⟨fun z => (h.1 z).1, fun k => ⟨fun z => ⟨(h.1 z).1.2, (h.1 z).2⟩, fun z => h.2 ⟨⟨k, z.1⟩, z.2⟩⟩⟩)
   have a0 : (wr.alloc (.cells #[.int .i64 t.f0, .int .i64 t.f1, .int .i64 t.f2, .slice A3 t.f3.length c3, .int .i64 t.f4] 43)).cell? ⟨wr.heap.size, 0, none⟩ = some (.int .i64 t.f0) := blk_cell (alloc_at wr (.cells #[.int .i64 t.f0, .int .i64 t.f1, .int .i64 t.f2, .slice A3 t.f3.length c3, .int .i64 t.f4] 43)) 0
   have a1 : (wr.alloc (.cells #[.int .i64 t.f0, .int .i64 t.f1, .int .i64 t.f2, .slice A3 t.f3.length c3, .int .i64 t.f4] 43)).cell? ⟨wr.heap.size, 1, none⟩ = some (.int .i64 t.f1) := blk_cell (alloc_at wr (.cells #[.int .i64 t.f0, .int .i64 t.f1, .int .i64 t.f2, .slice A3 t.f3.length c3, .int .i64 t.f4] 43)) 1
   have a2 : (wr.alloc (.cells #[.int .i64 t.f0, .int .i64 t.f1, .int .i64 t.f2, .slice A3 t.f3.length c3, .int .i64 t.f4] 43)).cell? ⟨wr.heap.size, 2, none⟩ = some (.int .i64 t.f2) := blk_cell (alloc_at wr (.cells #[.int .i64 t.f0, .int .i64 t.f1, .int .i64 t.f2, .slice A3 t.f3.length c3, .int .i64 t.f4] 43)) 2
   have a3 : (wr.alloc (.cells #[.int .i64 t.f0, .int .i64 t.f1, .int .i64 t.f2, .slice A3 t.f3.length c3, .int .i64 t.f4] 43)).cell? ⟨wr.heap.size, 3, none⟩ = some (.slice A3 t.f3.length c3) := blk_cell (alloc_at wr (.cells #[.int .i64 t.f0, .int .i64 t.f1, .int .i64 t.f2, .slice A3 t.f3.length c3, .int .i64 t.f4] 43)) 3
   have a4 : (wr.alloc (.cells #[.int .i64 t.f0, .int .i64 t.f1, .int .i64 t.f2, .slice A3 t.f3.length c3, .int .i64 t.f4] 43)).cell? ⟨wr.heap.size, 4, none⟩ = some (.int .i64 t.f4) := blk_cell (alloc_at wr (.cells #[.int .i64 t.f0, .int .i64 t.f1, .int .i64 t.f2, .slice A3 t.f3.length c3, .int .i64 t.f4] 43)) 4
   replace i0 := eq_true i0
   replace i1 := eq_true i1
   clear ij jk hll hi2 hC ht et tr hl3 hseen m0 RR hma HMA
   have HMA := HMA'
   clear HMA'
   by_cases p1 : t.f0 < 4
   ·have ep1 : decide (t.f0 < 4) = true := decide_eq_true p1
    have Xp1 := Aside0.mk p1
    clear p1
    go_wp2
    go_ret
    refine ⟨_, rfl, iff_of_false (by decide) (fun z => ?_), HB2.out⟩
    have z := (NX.out.1 z).1
    unfold okP at z
    exact z.1 (.inl (Xp1.out))
   ·have ep1 : decide (t.f0 < 4) = false := decide_eq_false p1
    have Xp1 := Aside0.mk p1
    clear p1
    by_cases p2 : 9 < t.f0
    ·have ep2 : decide (9 < t.f0) = true := decide_eq_true p2
     have Xp2 := Aside0.mk p2
     clear p2
     go_wp2
     go_ret
     refine ⟨_, rfl, iff_of_false (by decide) (fun z => ?_), HB2.out⟩
     have z := (NX.out.1 z).1
     unfold okP at z
     exact z.1 (.inr (.inl (Xp2.out)))
    ·have ep2 : decide (9 < t.f0) = false := decide_eq_false p2
     have Xp2 := Aside0.mk p2
     clear p2
     by_cases p3 : t.f1 < 0
     ·have ep3 : decide (t.f1 < 0) = true := decide_eq_true p3
      have Xp3 := Aside0.mk p3
      clear p3
      go_wp2
      go_ret
      refine ⟨_, rfl, iff_of_false (by decide) (fun z => ?_), HB2.out⟩
      have z := (NX.out.1 z).1
      unfold okP at z
      exact z.1 (.inr (.inr (.inl (Xp3.out))))
     ·have ep3 : decide (t.f1 < 0) = false := decide_eq_false p3
      have Xp3 := Aside0.mk p3
      clear p3
      by_cases p4 : 3 < t.f1
      ·have ep4 : decide (3 < t.f1) = true := decide_eq_true p4
       have Xp4 := Aside0.mk p4
       clear p4
       go_wp2
       go_ret
       refine ⟨_, rfl, iff_of_false (by decide) (fun z => ?_), HB2.out⟩
       have z := (NX.out.1 z).1
       unfold okP at z
       exact z.1 (.inr (.inr (.inr (.inl (Xp4.out)))))
      ·have ep4 : decide (3 < t.f1) = false := decide_eq_false p4
       have Xp4 := Aside0.mk p4
       clear p4
       by_cases p5 : t.f2 < 0
       ·have ep5 : decide (t.f2 < 0) = true := decide_eq_true p5
        have Xp5 := Aside0.mk p5
        clear p5
        go_wp2
        go_ret
        refine ⟨_, rfl, iff_of_false (by decide) (fun z => ?_), HB2.out⟩
        have z := (NX.out.1 z).1
        unfold okP at z
        exact z.1 (.inr (.inr (.inr (.inr (.inl (Xp5.out))))))
       ·have ep5 : decide (t.f2 < 0) = false := decide_eq_false p5
        have Xp5 := Aside0.mk p5
        clear p5
        by_cases p6 : t.f4 < 0
        ·have ep6 : decide (t.f4 < 0) = true := decide_eq_true p6
         have Xp6 := Aside0.mk p6
         clear p6
         go_wp2
         go_ret
         refine ⟨_, rfl, iff_of_false (by decide) (fun z => ?_), HB2.out⟩
         have z := (NX.out.1 z).1
         unfold okP at z
         exact z.1 (.inr (.inr (.inr (.inr (.inr (.inl (Xp6.out)))))))
        ·have ep6 : decide (t.f4 < 0) = false := decide_eq_false p6
         have Xp6 := Aside0.mk p6
         clear p6
         by_cases p7 : t.f0 ≠ 5
         ·have ep7 : (t.f0 != 5) = true := bne_iff_ne.mpr p7
          have Xp7 := Aside0.mk p7
          clear p7
          by_cases p8 : t.f1 ≠ 0
          ·have ep8 : (t.f1 != 0) = true := bne_iff_ne.mpr p8
           have Xp8 := Aside0.mk p8
           clear p8
           go_wp2
           go_ret
           refine ⟨_, rfl, iff_of_false (by decide) (fun z => ?_), HB2.out⟩
           have z := (NX.out.1 z).1
           unfold okP at z
           exact z.1 (.inr (.inr (.inr (.inr (.inr (.inr (⟨Xp7.out, .inl Xp8.out⟩)))))))
          ·have ep8 : (t.f1 != 0) = false := bne_eq_false_iff_eq.mpr (Decidable.not_not.mp p8)
           have Xp8 := Aside0.mk p8
           clear p8
           by_cases p9 : t.f4 ≠ 0
           ·have ep9 : (t.f4 != 0) = true := bne_iff_ne.mpr p9
            have Xp9 := Aside0.mk p9
            clear p9
            go_wp2
            go_ret
            refine ⟨_, rfl, iff_of_false (by decide) (fun z => ?_), HB2.out⟩
            have z := (NX.out.1 z).1
            unfold okP at z
            exact z.1 (.inr (.inr (.inr (.inr (.inr (.inr (⟨Xp7.out, .inr Xp9.out⟩)))))))
           ·have ep9 : (t.f4 != 0) = false := bne_eq_false_iff_eq.mpr (Decidable.not_not.mp p9)
            have Xp9 := Aside0.mk p9
            clear p9
            by_cases r1 : 0 < t.f2
            ·have er1 : decide (0 < t.f2) = true := decide_eq_true r1
             have Xr1 := Aside0.mk r1
             clear r1
             by_cases r2 : t.f2 ≥ (t.f3.length : Int)
             ·have er2 : decide (t.f2 ≥ (t.f3.length : Int)) = true := decide_eq_true r2
              have Xr2 := Aside0.mk r2
              clear r2
              go_wp2
              go_ret
              refine ⟨_, rfl, iff_of_false (by decide) (fun z => ?_), HB2.out⟩
              have z := (NX.out.1 z).1
              unfold okP at z
              exact z.2.1 ⟨Xr1.out, Xr2.out⟩
             ·have er2 : decide (t.f2 ≥ (t.f3.length : Int)) = false := decide_eq_false r2
              have Xr2 := Aside0.mk r2
              clear r2
              by_cases f1 : 0 < t.f4
              ·have ef1 : decide (0 < t.f4) = true := decide_eq_true f1
               have Xf1 := Aside0.mk f1
               clear f1
               by_cases f2 : t.f4 ∈ seen
               ·rw [decide_eq_true f2] at hlk
                have Xf2 := Aside0.mk f2
                clear f2
                go_wp2
                go_ret
                refine ⟨_, rfl, iff_of_false (by decide) (fun z => ?_), HB2.out⟩
                have z := (NX.out.1 z).1
                unfold okP at z
                exact z.2.2.1 ⟨Xf1.out, Xf2.out⟩
               ·rw [decide_eq_false f2] at hlk
                have Xf2 := Aside0.mk f2
                clear f2
                rcases hfv : fineL th t.f3 with _ | _
                ·have HF := Aside0.mk hfv
                 clear hfv
                 go_wp2_with (first | (go_at_call 32; (refine (fine_calls _ g w2.heap.size (some ad) c0 th (blk_cell (blk_alloc HGK.out _) 0) (Kd.C_below H0.out HB2.out) (blk_cell (blk_alloc HGB.out _) 0) HM.out A3 c3 t.f3 (Kd.C_below HC3.out HB2.out) HT3.out).mono ?_); rintro e w4 ⟨rfl, h4⟩; rw [HF.out]; have HB4 := Aside0.mk (below_step HB2.out h4); have M4 := Aside0.mk (HMA.out.kept (h4.block _ HMA.out.lt)); have G4 := Aside0.mk (blk_below (blk_alloc HGK.out _) h4); have GB4 := Aside0.mk (blk_below (blk_alloc HGB.out _) h4); have BX4 := Aside0.mk (blk_below (blk_alloc HBX.out _) h4); have TB4 := Aside0.mk (blk_below (alloc_at wr (.cells #[.int .i64 t.f0, .int .i64 t.f1, .int .i64 t.f2, .slice A3 t.f3.length c3, .int .i64 t.f4] 43)) h4); clear h4 a0 a1 a2 a3 a4 hlk; have k4 : w4.cell? ⟨wr.heap.size, 4, none⟩ = some (.int .i64 t.f4) := blk_cell TB4.out 4))
                 go_ret
                 refine ⟨_, rfl, iff_of_false (by decide) (fun z => ?_), HB4.out⟩
                 have z := (NX.out.1 z).1
                 unfold okP at z
                 exact Bool.noConfusion (z.2.2.2.symm.trans HF.out)
                ·have HF := Aside0.mk hfv
                 clear hfv
                 go_wp2_with (first | (go_at_call 32; (refine (fine_calls _ g w2.heap.size (some ad) c0 th (blk_cell (blk_alloc HGK.out _) 0) (Kd.C_below H0.out HB2.out) (blk_cell (blk_alloc HGB.out _) 0) HM.out A3 c3 t.f3 (Kd.C_below HC3.out HB2.out) HT3.out).mono ?_); rintro e w4 ⟨rfl, h4⟩; rw [HF.out]; have HB4 := Aside0.mk (below_step HB2.out h4); have M4 := Aside0.mk (HMA.out.kept (h4.block _ HMA.out.lt)); have G4 := Aside0.mk (blk_below (blk_alloc HGK.out _) h4); have GB4 := Aside0.mk (blk_below (blk_alloc HGB.out _) h4); have BX4 := Aside0.mk (blk_below (blk_alloc HBX.out _) h4); have TB4 := Aside0.mk (blk_below (alloc_at wr (.cells #[.int .i64 t.f0, .int .i64 t.f1, .int .i64 t.f2, .slice A3 t.f3.length c3, .int .i64 t.f4] 43)) h4); clear h4 a0 a1 a2 a3 a4 hlk; have k4 : w4.cell? ⟨wr.heap.size, 4, none⟩ = some (.int .i64 t.f4) := blk_cell TB4.out 4) | ((with_reducible refine gate_ (.mapUpdate 60 (.tmp 91) (.tmp 93) (.const (.bool true))) rfl ?_); refine wp_update rfl _ _ _ _ (.inl rfl) (Maps.int_keyed Try.underlying3) Try.underlying60 rfl M4.out (key := .int .i64 t.f4) (val := .bool true) rfl rfl HK.out ?_; intro w5 m5 u5; have M5 := Aside0.mk m5; have U5 := Aside0.mk u5; clear m5 u5 k4))
                 go_roundg gk
                 case measure => omega
                 case rel =>
                  refine ⟨j + 1, _, (by first | rfl | (simp; done) | (simp [*]; done)), ⟨by have := IJ.out; have := I2.out; omega⟩, ⟨by have := JK.out; omega⟩, ⟨U5.out.below HB4.out MB.out⟩, ⟨?_⟩, ⟨(U5.out.block _ (mapApart M4.out G4.out)).trans G4.out⟩, ⟨(U5.out.block _ (mapApart M4.out GB4.out)).trans GB4.out⟩, ⟨(U5.out.block _ (mapApart M4.out BX4.out)).trans BX4.out⟩, ⟨?_⟩⟩
                  ·rw [SN.out, mOf_snoc]; exact M5.out
                  ·rw [SN.out]; exact (NX.out.2 (by unfold okP; exact ⟨(by intro y; have y1 := Xp1.out; have y2 := Xp2.out; have y3 := Xp3.out; have y4 := Xp4.out; have y5 := Xp5.out; have y6 := Xp6.out; have y7 := Xp7.out; have y8 := Xp8.out; have y9 := Xp9.out; omega), (fun y => by have := Xr2.out; omega), (fun y => Xf2.out y.2), HF.out⟩))
              ·have ef1 : decide (0 < t.f4) = false := decide_eq_false f1
               have Xf1 := Aside0.mk f1
               clear f1
               rcases hfv : fineL th t.f3 with _ | _
               ·have HF := Aside0.mk hfv
                clear hfv
                go_wp2_with (first | (go_at_call 32; (refine (fine_calls _ g w2.heap.size (some ad) c0 th (blk_cell (blk_alloc HGK.out _) 0) (Kd.C_below H0.out HB2.out) (blk_cell (blk_alloc HGB.out _) 0) HM.out A3 c3 t.f3 (Kd.C_below HC3.out HB2.out) HT3.out).mono ?_); rintro e w4 ⟨rfl, h4⟩; rw [HF.out]; have HB4 := Aside0.mk (below_step HB2.out h4); have M4 := Aside0.mk (HMA.out.kept (h4.block _ HMA.out.lt)); have G4 := Aside0.mk (blk_below (blk_alloc HGK.out _) h4); have GB4 := Aside0.mk (blk_below (blk_alloc HGB.out _) h4); have BX4 := Aside0.mk (blk_below (blk_alloc HBX.out _) h4); have TB4 := Aside0.mk (blk_below (alloc_at wr (.cells #[.int .i64 t.f0, .int .i64 t.f1, .int .i64 t.f2, .slice A3 t.f3.length c3, .int .i64 t.f4] 43)) h4); clear h4 a0 a1 a2 a3 a4 hlk; have k4 : w4.cell? ⟨wr.heap.size, 4, none⟩ = some (.int .i64 t.f4) := blk_cell TB4.out 4))
                go_ret
                refine ⟨_, rfl, iff_of_false (by decide) (fun z => ?_), HB4.out⟩
                have z := (NX.out.1 z).1
                unfold okP at z
                exact Bool.noConfusion (z.2.2.2.symm.trans HF.out)
               ·have HF := Aside0.mk hfv
                clear hfv
                go_wp2_with (first | (go_at_call 32; (refine (fine_calls _ g w2.heap.size (some ad) c0 th (blk_cell (blk_alloc HGK.out _) 0) (Kd.C_below H0.out HB2.out) (blk_cell (blk_alloc HGB.out _) 0) HM.out A3 c3 t.f3 (Kd.C_below HC3.out HB2.out) HT3.out).mono ?_); rintro e w4 ⟨rfl, h4⟩; rw [HF.out]; have HB4 := Aside0.mk (below_step HB2.out h4); have M4 := Aside0.mk (HMA.out.kept (h4.block _ HMA.out.lt)); have G4 := Aside0.mk (blk_below (blk_alloc HGK.out _) h4); have GB4 := Aside0.mk (blk_below (blk_alloc HGB.out _) h4); have BX4 := Aside0.mk (blk_below (blk_alloc HBX.out _) h4); have TB4 := Aside0.mk (blk_below (alloc_at wr (.cells #[.int .i64 t.f0, .int .i64 t.f1, .int .i64 t.f2, .slice A3 t.f3.length c3, .int .i64 t.f4] 43)) h4); clear h4 a0 a1 a2 a3 a4 hlk; have k4 : w4.cell? ⟨wr.heap.size, 4, none⟩ = some (.int .i64 t.f4) := blk_cell TB4.out 4) | ((with_reducible refine gate_ (.mapUpdate 60 (.tmp 91) (.tmp 93) (.const (.bool true))) rfl ?_); refine wp_update rfl _ _ _ _ (.inl rfl) (Maps.int_keyed Try.underlying3) Try.underlying60 rfl M4.out (key := .int .i64 t.f4) (val := .bool true) rfl rfl HK.out ?_; intro w5 m5 u5; have M5 := Aside0.mk m5; have U5 := Aside0.mk u5; clear m5 u5 k4))
                go_roundg gk
                case measure => omega
                case rel =>
                 refine ⟨j + 1, _, (by first | rfl | (simp; done) | (simp [*]; done)), ⟨by have := IJ.out; have := I2.out; omega⟩, ⟨by have := JK.out; omega⟩, ⟨U5.out.below HB4.out MB.out⟩, ⟨?_⟩, ⟨(U5.out.block _ (mapApart M4.out G4.out)).trans G4.out⟩, ⟨(U5.out.block _ (mapApart M4.out GB4.out)).trans GB4.out⟩, ⟨(U5.out.block _ (mapApart M4.out BX4.out)).trans BX4.out⟩, ⟨?_⟩⟩
                 ·rw [SN.out, mOf_snoc]; exact M5.out
                 ·rw [SN.out]; exact (NX.out.2 (by unfold okP; exact ⟨(by intro y; have y1 := Xp1.out; have y2 := Xp2.out; have y3 := Xp3.out; have y4 := Xp4.out; have y5 := Xp5.out; have y6 := Xp6.out; have y7 := Xp7.out; have y8 := Xp8.out; have y9 := Xp9.out; omega), (fun y => by have := Xr2.out; omega), (fun y => by have := Xf1.out; omega), HF.out⟩))
            ·have er1 : decide (0 < t.f2) = false := decide_eq_false r1
             have Xr1 := Aside0.mk r1
             clear r1
             by_cases f1 : 0 < t.f4
             ·have ef1 : decide (0 < t.f4) = true := decide_eq_true f1
              have Xf1 := Aside0.mk f1
              clear f1
              by_cases f2 : t.f4 ∈ seen
              ·rw [decide_eq_true f2] at hlk
               have Xf2 := Aside0.mk f2
               clear f2
               go_wp2
               go_ret
               refine ⟨_, rfl, iff_of_false (by decide) (fun z => ?_), HB2.out⟩
               have z := (NX.out.1 z).1
               unfold okP at z
               exact z.2.2.1 ⟨Xf1.out, Xf2.out⟩
              ·rw [decide_eq_false f2] at hlk
               have Xf2 := Aside0.mk f2
               clear f2
               rcases hfv : fineL th t.f3 with _ | _
               ·have HF := Aside0.mk hfv
                clear hfv
                go_wp2_with (first | (go_at_call 32; (refine (fine_calls _ g w2.heap.size (some ad) c0 th (blk_cell (blk_alloc HGK.out _) 0) (Kd.C_below H0.out HB2.out) (blk_cell (blk_alloc HGB.out _) 0) HM.out A3 c3 t.f3 (Kd.C_below HC3.out HB2.out) HT3.out).mono ?_); rintro e w4 ⟨rfl, h4⟩; rw [HF.out]; have HB4 := Aside0.mk (below_step HB2.out h4); have M4 := Aside0.mk (HMA.out.kept (h4.block _ HMA.out.lt)); have G4 := Aside0.mk (blk_below (blk_alloc HGK.out _) h4); have GB4 := Aside0.mk (blk_below (blk_alloc HGB.out _) h4); have BX4 := Aside0.mk (blk_below (blk_alloc HBX.out _) h4); have TB4 := Aside0.mk (blk_below (alloc_at wr (.cells #[.int .i64 t.f0, .int .i64 t.f1, .int .i64 t.f2, .slice A3 t.f3.length c3, .int .i64 t.f4] 43)) h4); clear h4 a0 a1 a2 a3 a4 hlk; have k4 : w4.cell? ⟨wr.heap.size, 4, none⟩ = some (.int .i64 t.f4) := blk_cell TB4.out 4))
                go_ret
                refine ⟨_, rfl, iff_of_false (by decide) (fun z => ?_), HB4.out⟩
                have z := (NX.out.1 z).1
                unfold okP at z
                exact Bool.noConfusion (z.2.2.2.symm.trans HF.out)
               ·have HF := Aside0.mk hfv
                clear hfv
                go_wp2_with (first | (go_at_call 32; (refine (fine_calls _ g w2.heap.size (some ad) c0 th (blk_cell (blk_alloc HGK.out _) 0) (Kd.C_below H0.out HB2.out) (blk_cell (blk_alloc HGB.out _) 0) HM.out A3 c3 t.f3 (Kd.C_below HC3.out HB2.out) HT3.out).mono ?_); rintro e w4 ⟨rfl, h4⟩; rw [HF.out]; have HB4 := Aside0.mk (below_step HB2.out h4); have M4 := Aside0.mk (HMA.out.kept (h4.block _ HMA.out.lt)); have G4 := Aside0.mk (blk_below (blk_alloc HGK.out _) h4); have GB4 := Aside0.mk (blk_below (blk_alloc HGB.out _) h4); have BX4 := Aside0.mk (blk_below (blk_alloc HBX.out _) h4); have TB4 := Aside0.mk (blk_below (alloc_at wr (.cells #[.int .i64 t.f0, .int .i64 t.f1, .int .i64 t.f2, .slice A3 t.f3.length c3, .int .i64 t.f4] 43)) h4); clear h4 a0 a1 a2 a3 a4 hlk; have k4 : w4.cell? ⟨wr.heap.size, 4, none⟩ = some (.int .i64 t.f4) := blk_cell TB4.out 4) | ((with_reducible refine gate_ (.mapUpdate 60 (.tmp 91) (.tmp 93) (.const (.bool true))) rfl ?_); refine wp_update rfl _ _ _ _ (.inl rfl) (Maps.int_keyed Try.underlying3) Try.underlying60 rfl M4.out (key := .int .i64 t.f4) (val := .bool true) rfl rfl HK.out ?_; intro w5 m5 u5; have M5 := Aside0.mk m5; have U5 := Aside0.mk u5; clear m5 u5 k4))
                go_roundg gk
                case measure => omega
                case rel =>
                 refine ⟨j + 1, _, (by first | rfl | (simp; done) | (simp [*]; done)), ⟨by have := IJ.out; have := I2.out; omega⟩, ⟨by have := JK.out; omega⟩, ⟨U5.out.below HB4.out MB.out⟩, ⟨?_⟩, ⟨(U5.out.block _ (mapApart M4.out G4.out)).trans G4.out⟩, ⟨(U5.out.block _ (mapApart M4.out GB4.out)).trans GB4.out⟩, ⟨(U5.out.block _ (mapApart M4.out BX4.out)).trans BX4.out⟩, ⟨?_⟩⟩
                 ·rw [SN.out, mOf_snoc]; exact M5.out
                 ·rw [SN.out]; exact (NX.out.2 (by unfold okP; exact ⟨(by intro y; have y1 := Xp1.out; have y2 := Xp2.out; have y3 := Xp3.out; have y4 := Xp4.out; have y5 := Xp5.out; have y6 := Xp6.out; have y7 := Xp7.out; have y8 := Xp8.out; have y9 := Xp9.out; omega), (fun y => by have := Xr1.out; omega), (fun y => Xf2.out y.2), HF.out⟩))
             ·have ef1 : decide (0 < t.f4) = false := decide_eq_false f1
              have Xf1 := Aside0.mk f1
              clear f1
              rcases hfv : fineL th t.f3 with _ | _
              ·have HF := Aside0.mk hfv
               clear hfv
               go_wp2_with (first | (go_at_call 32; (refine (fine_calls _ g w2.heap.size (some ad) c0 th (blk_cell (blk_alloc HGK.out _) 0) (Kd.C_below H0.out HB2.out) (blk_cell (blk_alloc HGB.out _) 0) HM.out A3 c3 t.f3 (Kd.C_below HC3.out HB2.out) HT3.out).mono ?_); rintro e w4 ⟨rfl, h4⟩; rw [HF.out]; have HB4 := Aside0.mk (below_step HB2.out h4); have M4 := Aside0.mk (HMA.out.kept (h4.block _ HMA.out.lt)); have G4 := Aside0.mk (blk_below (blk_alloc HGK.out _) h4); have GB4 := Aside0.mk (blk_below (blk_alloc HGB.out _) h4); have BX4 := Aside0.mk (blk_below (blk_alloc HBX.out _) h4); have TB4 := Aside0.mk (blk_below (alloc_at wr (.cells #[.int .i64 t.f0, .int .i64 t.f1, .int .i64 t.f2, .slice A3 t.f3.length c3, .int .i64 t.f4] 43)) h4); clear h4 a0 a1 a2 a3 a4 hlk; have k4 : w4.cell? ⟨wr.heap.size, 4, none⟩ = some (.int .i64 t.f4) := blk_cell TB4.out 4))
               go_ret
               refine ⟨_, rfl, iff_of_false (by decide) (fun z => ?_), HB4.out⟩
               have z := (NX.out.1 z).1
               unfold okP at z
               exact Bool.noConfusion (z.2.2.2.symm.trans HF.out)
              ·have HF := Aside0.mk hfv
               clear hfv
               go_wp2_with (first | (go_at_call 32; (refine (fine_calls _ g w2.heap.size (some ad) c0 th (blk_cell (blk_alloc HGK.out _) 0) (Kd.C_below H0.out HB2.out) (blk_cell (blk_alloc HGB.out _) 0) HM.out A3 c3 t.f3 (Kd.C_below HC3.out HB2.out) HT3.out).mono ?_); rintro e w4 ⟨rfl, h4⟩; rw [HF.out]; have HB4 := Aside0.mk (below_step HB2.out h4); have M4 := Aside0.mk (HMA.out.kept (h4.block _ HMA.out.lt)); have G4 := Aside0.mk (blk_below (blk_alloc HGK.out _) h4); have GB4 := Aside0.mk (blk_below (blk_alloc HGB.out _) h4); have BX4 := Aside0.mk (blk_below (blk_alloc HBX.out _) h4); have TB4 := Aside0.mk (blk_below (alloc_at wr (.cells #[.int .i64 t.f0, .int .i64 t.f1, .int .i64 t.f2, .slice A3 t.f3.length c3, .int .i64 t.f4] 43)) h4); clear h4 a0 a1 a2 a3 a4 hlk; have k4 : w4.cell? ⟨wr.heap.size, 4, none⟩ = some (.int .i64 t.f4) := blk_cell TB4.out 4) | ((with_reducible refine gate_ (.mapUpdate 60 (.tmp 91) (.tmp 93) (.const (.bool true))) rfl ?_); refine wp_update rfl _ _ _ _ (.inl rfl) (Maps.int_keyed Try.underlying3) Try.underlying60 rfl M4.out (key := .int .i64 t.f4) (val := .bool true) rfl rfl HK.out ?_; intro w5 m5 u5; have M5 := Aside0.mk m5; have U5 := Aside0.mk u5; clear m5 u5 k4))
               go_roundg gk
               case measure => omega
               case rel =>
                refine ⟨j + 1, _, (by first | rfl | (simp; done) | (simp [*]; done)), ⟨by have := IJ.out; have := I2.out; omega⟩, ⟨by have := JK.out; omega⟩, ⟨U5.out.below HB4.out MB.out⟩, ⟨?_⟩, ⟨(U5.out.block _ (mapApart M4.out G4.out)).trans G4.out⟩, ⟨(U5.out.block _ (mapApart M4.out GB4.out)).trans GB4.out⟩, ⟨(U5.out.block _ (mapApart M4.out BX4.out)).trans BX4.out⟩, ⟨?_⟩⟩
                ·rw [SN.out, mOf_snoc]; exact M5.out
                ·rw [SN.out]; exact (NX.out.2 (by unfold okP; exact ⟨(by intro y; have y1 := Xp1.out; have y2 := Xp2.out; have y3 := Xp3.out; have y4 := Xp4.out; have y5 := Xp5.out; have y6 := Xp6.out; have y7 := Xp7.out; have y8 := Xp8.out; have y9 := Xp9.out; omega), (fun y => by have := Xr1.out; omega), (fun y => by have := Xf1.out; omega), HF.out⟩))
         ·have ep7 : (t.f0 != 5) = false := bne_eq_false_iff_eq.mpr (Decidable.not_not.mp p7)
          have Xp7 := Aside0.mk p7
          clear p7
          by_cases r1 : 0 < t.f2
          ·have er1 : decide (0 < t.f2) = true := decide_eq_true r1
           have Xr1 := Aside0.mk r1
           clear r1
           by_cases r2 : t.f2 ≥ (t.f3.length : Int)
           ·have er2 : decide (t.f2 ≥ (t.f3.length : Int)) = true := decide_eq_true r2
            have Xr2 := Aside0.mk r2
            clear r2
            go_wp2
            go_ret
            refine ⟨_, rfl, iff_of_false (by decide) (fun z => ?_), HB2.out⟩
            have z := (NX.out.1 z).1
            unfold okP at z
            exact z.2.1 ⟨Xr1.out, Xr2.out⟩
           ·have er2 : decide (t.f2 ≥ (t.f3.length : Int)) = false := decide_eq_false r2
            have Xr2 := Aside0.mk r2
            clear r2
            by_cases f1 : 0 < t.f4
            ·have ef1 : decide (0 < t.f4) = true := decide_eq_true f1
             have Xf1 := Aside0.mk f1
             clear f1
             by_cases f2 : t.f4 ∈ seen
             ·rw [decide_eq_true f2] at hlk
              have Xf2 := Aside0.mk f2
              clear f2
              go_wp2
              go_ret
              refine ⟨_, rfl, iff_of_false (by decide) (fun z => ?_), HB2.out⟩
              have z := (NX.out.1 z).1
              unfold okP at z
              exact z.2.2.1 ⟨Xf1.out, Xf2.out⟩
             ·rw [decide_eq_false f2] at hlk
              have Xf2 := Aside0.mk f2
              clear f2
              rcases hfv : fineL th t.f3 with _ | _
              ·have HF := Aside0.mk hfv
               clear hfv
               go_wp2_with (first | (go_at_call 32; (refine (fine_calls _ g w2.heap.size (some ad) c0 th (blk_cell (blk_alloc HGK.out _) 0) (Kd.C_below H0.out HB2.out) (blk_cell (blk_alloc HGB.out _) 0) HM.out A3 c3 t.f3 (Kd.C_below HC3.out HB2.out) HT3.out).mono ?_); rintro e w4 ⟨rfl, h4⟩; rw [HF.out]; have HB4 := Aside0.mk (below_step HB2.out h4); have M4 := Aside0.mk (HMA.out.kept (h4.block _ HMA.out.lt)); have G4 := Aside0.mk (blk_below (blk_alloc HGK.out _) h4); have GB4 := Aside0.mk (blk_below (blk_alloc HGB.out _) h4); have BX4 := Aside0.mk (blk_below (blk_alloc HBX.out _) h4); have TB4 := Aside0.mk (blk_below (alloc_at wr (.cells #[.int .i64 t.f0, .int .i64 t.f1, .int .i64 t.f2, .slice A3 t.f3.length c3, .int .i64 t.f4] 43)) h4); clear h4 a0 a1 a2 a3 a4 hlk; have k4 : w4.cell? ⟨wr.heap.size, 4, none⟩ = some (.int .i64 t.f4) := blk_cell TB4.out 4))
               go_ret
               refine ⟨_, rfl, iff_of_false (by decide) (fun z => ?_), HB4.out⟩
               have z := (NX.out.1 z).1
               unfold okP at z
               exact Bool.noConfusion (z.2.2.2.symm.trans HF.out)
              ·have HF := Aside0.mk hfv
               clear hfv
               go_wp2_with (first | (go_at_call 32; (refine (fine_calls _ g w2.heap.size (some ad) c0 th (blk_cell (blk_alloc HGK.out _) 0) (Kd.C_below H0.out HB2.out) (blk_cell (blk_alloc HGB.out _) 0) HM.out A3 c3 t.f3 (Kd.C_below HC3.out HB2.out) HT3.out).mono ?_); rintro e w4 ⟨rfl, h4⟩; rw [HF.out]; have HB4 := Aside0.mk (below_step HB2.out h4); have M4 := Aside0.mk (HMA.out.kept (h4.block _ HMA.out.lt)); have G4 := Aside0.mk (blk_below (blk_alloc HGK.out _) h4); have GB4 := Aside0.mk (blk_below (blk_alloc HGB.out _) h4); have BX4 := Aside0.mk (blk_below (blk_alloc HBX.out _) h4); have TB4 := Aside0.mk (blk_below (alloc_at wr (.cells #[.int .i64 t.f0, .int .i64 t.f1, .int .i64 t.f2, .slice A3 t.f3.length c3, .int .i64 t.f4] 43)) h4); clear h4 a0 a1 a2 a3 a4 hlk; have k4 : w4.cell? ⟨wr.heap.size, 4, none⟩ = some (.int .i64 t.f4) := blk_cell TB4.out 4) | ((with_reducible refine gate_ (.mapUpdate 60 (.tmp 91) (.tmp 93) (.const (.bool true))) rfl ?_); refine wp_update rfl _ _ _ _ (.inl rfl) (Maps.int_keyed Try.underlying3) Try.underlying60 rfl M4.out (key := .int .i64 t.f4) (val := .bool true) rfl rfl HK.out ?_; intro w5 m5 u5; have M5 := Aside0.mk m5; have U5 := Aside0.mk u5; clear m5 u5 k4))
               go_roundg gk
               case measure => omega
               case rel =>
                refine ⟨j + 1, _, (by first | rfl | (simp; done) | (simp [*]; done)), ⟨by have := IJ.out; have := I2.out; omega⟩, ⟨by have := JK.out; omega⟩, ⟨U5.out.below HB4.out MB.out⟩, ⟨?_⟩, ⟨(U5.out.block _ (mapApart M4.out G4.out)).trans G4.out⟩, ⟨(U5.out.block _ (mapApart M4.out GB4.out)).trans GB4.out⟩, ⟨(U5.out.block _ (mapApart M4.out BX4.out)).trans BX4.out⟩, ⟨?_⟩⟩
                ·rw [SN.out, mOf_snoc]; exact M5.out
                ·rw [SN.out]; exact (NX.out.2 (by unfold okP; exact ⟨(by intro y; have y1 := Xp1.out; have y2 := Xp2.out; have y3 := Xp3.out; have y4 := Xp4.out; have y5 := Xp5.out; have y6 := Xp6.out; have y7 := Xp7.out; omega), (fun y => by have := Xr2.out; omega), (fun y => Xf2.out y.2), HF.out⟩))
            ·have ef1 : decide (0 < t.f4) = false := decide_eq_false f1
             have Xf1 := Aside0.mk f1
             clear f1
             rcases hfv : fineL th t.f3 with _ | _
             ·have HF := Aside0.mk hfv
              clear hfv
              go_wp2_with (first | (go_at_call 32; (refine (fine_calls _ g w2.heap.size (some ad) c0 th (blk_cell (blk_alloc HGK.out _) 0) (Kd.C_below H0.out HB2.out) (blk_cell (blk_alloc HGB.out _) 0) HM.out A3 c3 t.f3 (Kd.C_below HC3.out HB2.out) HT3.out).mono ?_); rintro e w4 ⟨rfl, h4⟩; rw [HF.out]; have HB4 := Aside0.mk (below_step HB2.out h4); have M4 := Aside0.mk (HMA.out.kept (h4.block _ HMA.out.lt)); have G4 := Aside0.mk (blk_below (blk_alloc HGK.out _) h4); have GB4 := Aside0.mk (blk_below (blk_alloc HGB.out _) h4); have BX4 := Aside0.mk (blk_below (blk_alloc HBX.out _) h4); have TB4 := Aside0.mk (blk_below (alloc_at wr (.cells #[.int .i64 t.f0, .int .i64 t.f1, .int .i64 t.f2, .slice A3 t.f3.length c3, .int .i64 t.f4] 43)) h4); clear h4 a0 a1 a2 a3 a4 hlk; have k4 : w4.cell? ⟨wr.heap.size, 4, none⟩ = some (.int .i64 t.f4) := blk_cell TB4.out 4))
              go_ret
              refine ⟨_, rfl, iff_of_false (by decide) (fun z => ?_), HB4.out⟩
              have z := (NX.out.1 z).1
              unfold okP at z
              exact Bool.noConfusion (z.2.2.2.symm.trans HF.out)
             ·have HF := Aside0.mk hfv
              clear hfv
              go_wp2_with (first | (go_at_call 32; (refine (fine_calls _ g w2.heap.size (some ad) c0 th (blk_cell (blk_alloc HGK.out _) 0) (Kd.C_below H0.out HB2.out) (blk_cell (blk_alloc HGB.out _) 0) HM.out A3 c3 t.f3 (Kd.C_below HC3.out HB2.out) HT3.out).mono ?_); rintro e w4 ⟨rfl, h4⟩; rw [HF.out]; have HB4 := Aside0.mk (below_step HB2.out h4); have M4 := Aside0.mk (HMA.out.kept (h4.block _ HMA.out.lt)); have G4 := Aside0.mk (blk_below (blk_alloc HGK.out _) h4); have GB4 := Aside0.mk (blk_below (blk_alloc HGB.out _) h4); have BX4 := Aside0.mk (blk_below (blk_alloc HBX.out _) h4); have TB4 := Aside0.mk (blk_below (alloc_at wr (.cells #[.int .i64 t.f0, .int .i64 t.f1, .int .i64 t.f2, .slice A3 t.f3.length c3, .int .i64 t.f4] 43)) h4); clear h4 a0 a1 a2 a3 a4 hlk; have k4 : w4.cell? ⟨wr.heap.size, 4, none⟩ = some (.int .i64 t.f4) := blk_cell TB4.out 4) | ((with_reducible refine gate_ (.mapUpdate 60 (.tmp 91) (.tmp 93) (.const (.bool true))) rfl ?_); refine wp_update rfl _ _ _ _ (.inl rfl) (Maps.int_keyed Try.underlying3) Try.underlying60 rfl M4.out (key := .int .i64 t.f4) (val := .bool true) rfl rfl HK.out ?_; intro w5 m5 u5; have M5 := Aside0.mk m5; have U5 := Aside0.mk u5; clear m5 u5 k4))
              go_roundg gk
              case measure => omega
              case rel =>
               refine ⟨j + 1, _, (by first | rfl | (simp; done) | (simp [*]; done)), ⟨by have := IJ.out; have := I2.out; omega⟩, ⟨by have := JK.out; omega⟩, ⟨U5.out.below HB4.out MB.out⟩, ⟨?_⟩, ⟨(U5.out.block _ (mapApart M4.out G4.out)).trans G4.out⟩, ⟨(U5.out.block _ (mapApart M4.out GB4.out)).trans GB4.out⟩, ⟨(U5.out.block _ (mapApart M4.out BX4.out)).trans BX4.out⟩, ⟨?_⟩⟩
               ·rw [SN.out, mOf_snoc]; exact M5.out
               ·rw [SN.out]; exact (NX.out.2 (by unfold okP; exact ⟨(by intro y; have y1 := Xp1.out; have y2 := Xp2.out; have y3 := Xp3.out; have y4 := Xp4.out; have y5 := Xp5.out; have y6 := Xp6.out; have y7 := Xp7.out; omega), (fun y => by have := Xr2.out; omega), (fun y => by have := Xf1.out; omega), HF.out⟩))
          ·have er1 : decide (0 < t.f2) = false := decide_eq_false r1
           have Xr1 := Aside0.mk r1
           clear r1
           by_cases f1 : 0 < t.f4
           ·have ef1 : decide (0 < t.f4) = true := decide_eq_true f1
            have Xf1 := Aside0.mk f1
            clear f1
            by_cases f2 : t.f4 ∈ seen
            ·rw [decide_eq_true f2] at hlk
             have Xf2 := Aside0.mk f2
             clear f2
             go_wp2
             go_ret
             refine ⟨_, rfl, iff_of_false (by decide) (fun z => ?_), HB2.out⟩
             have z := (NX.out.1 z).1
             unfold okP at z
             exact z.2.2.1 ⟨Xf1.out, Xf2.out⟩
            ·rw [decide_eq_false f2] at hlk
             have Xf2 := Aside0.mk f2
             clear f2
             rcases hfv : fineL th t.f3 with _ | _
             ·have HF := Aside0.mk hfv
              clear hfv
              go_wp2_with (first | (go_at_call 32; (refine (fine_calls _ g w2.heap.size (some ad) c0 th (blk_cell (blk_alloc HGK.out _) 0) (Kd.C_below H0.out HB2.out) (blk_cell (blk_alloc HGB.out _) 0) HM.out A3 c3 t.f3 (Kd.C_below HC3.out HB2.out) HT3.out).mono ?_); rintro e w4 ⟨rfl, h4⟩; rw [HF.out]; have HB4 := Aside0.mk (below_step HB2.out h4); have M4 := Aside0.mk (HMA.out.kept (h4.block _ HMA.out.lt)); have G4 := Aside0.mk (blk_below (blk_alloc HGK.out _) h4); have GB4 := Aside0.mk (blk_below (blk_alloc HGB.out _) h4); have BX4 := Aside0.mk (blk_below (blk_alloc HBX.out _) h4); have TB4 := Aside0.mk (blk_below (alloc_at wr (.cells #[.int .i64 t.f0, .int .i64 t.f1, .int .i64 t.f2, .slice A3 t.f3.length c3, .int .i64 t.f4] 43)) h4); clear h4 a0 a1 a2 a3 a4 hlk; have k4 : w4.cell? ⟨wr.heap.size, 4, none⟩ = some (.int .i64 t.f4) := blk_cell TB4.out 4))
              go_ret
              refine ⟨_, rfl, iff_of_false (by decide) (fun z => ?_), HB4.out⟩
              have z := (NX.out.1 z).1
              unfold okP at z
              exact Bool.noConfusion (z.2.2.2.symm.trans HF.out)
             ·have HF := Aside0.mk hfv
              clear hfv
              go_wp2_with (first | (go_at_call 32; (refine (fine_calls _ g w2.heap.size (some ad) c0 th (blk_cell (blk_alloc HGK.out _) 0) (Kd.C_below H0.out HB2.out) (blk_cell (blk_alloc HGB.out _) 0) HM.out A3 c3 t.f3 (Kd.C_below HC3.out HB2.out) HT3.out).mono ?_); rintro e w4 ⟨rfl, h4⟩; rw [HF.out]; have HB4 := Aside0.mk (below_step HB2.out h4); have M4 := Aside0.mk (HMA.out.kept (h4.block _ HMA.out.lt)); have G4 := Aside0.mk (blk_below (blk_alloc HGK.out _) h4); have GB4 := Aside0.mk (blk_below (blk_alloc HGB.out _) h4); have BX4 := Aside0.mk (blk_below (blk_alloc HBX.out _) h4); have TB4 := Aside0.mk (blk_below (alloc_at wr (.cells #[.int .i64 t.f0, .int .i64 t.f1, .int .i64 t.f2, .slice A3 t.f3.length c3, .int .i64 t.f4] 43)) h4); clear h4 a0 a1 a2 a3 a4 hlk; have k4 : w4.cell? ⟨wr.heap.size, 4, none⟩ = some (.int .i64 t.f4) := blk_cell TB4.out 4) | ((with_reducible refine gate_ (.mapUpdate 60 (.tmp 91) (.tmp 93) (.const (.bool true))) rfl ?_); refine wp_update rfl _ _ _ _ (.inl rfl) (Maps.int_keyed Try.underlying3) Try.underlying60 rfl M4.out (key := .int .i64 t.f4) (val := .bool true) rfl rfl HK.out ?_; intro w5 m5 u5; have M5 := Aside0.mk m5; have U5 := Aside0.mk u5; clear m5 u5 k4))
              go_roundg gk
              case measure => omega
              case rel =>
               refine ⟨j + 1, _, (by first | rfl | (simp; done) | (simp [*]; done)), ⟨by have := IJ.out; have := I2.out; omega⟩, ⟨by have := JK.out; omega⟩, ⟨U5.out.below HB4.out MB.out⟩, ⟨?_⟩, ⟨(U5.out.block _ (mapApart M4.out G4.out)).trans G4.out⟩, ⟨(U5.out.block _ (mapApart M4.out GB4.out)).trans GB4.out⟩, ⟨(U5.out.block _ (mapApart M4.out BX4.out)).trans BX4.out⟩, ⟨?_⟩⟩
               ·rw [SN.out, mOf_snoc]; exact M5.out
               ·rw [SN.out]; exact (NX.out.2 (by unfold okP; exact ⟨(by intro y; have y1 := Xp1.out; have y2 := Xp2.out; have y3 := Xp3.out; have y4 := Xp4.out; have y5 := Xp5.out; have y6 := Xp6.out; have y7 := Xp7.out; omega), (fun y => by have := Xr1.out; omega), (fun y => Xf2.out y.2), HF.out⟩))
           ·have ef1 : decide (0 < t.f4) = false := decide_eq_false f1
            have Xf1 := Aside0.mk f1
            clear f1
            rcases hfv : fineL th t.f3 with _ | _
            ·have HF := Aside0.mk hfv
             clear hfv
             go_wp2_with (first | (go_at_call 32; (refine (fine_calls _ g w2.heap.size (some ad) c0 th (blk_cell (blk_alloc HGK.out _) 0) (Kd.C_below H0.out HB2.out) (blk_cell (blk_alloc HGB.out _) 0) HM.out A3 c3 t.f3 (Kd.C_below HC3.out HB2.out) HT3.out).mono ?_); rintro e w4 ⟨rfl, h4⟩; rw [HF.out]; have HB4 := Aside0.mk (below_step HB2.out h4); have M4 := Aside0.mk (HMA.out.kept (h4.block _ HMA.out.lt)); have G4 := Aside0.mk (blk_below (blk_alloc HGK.out _) h4); have GB4 := Aside0.mk (blk_below (blk_alloc HGB.out _) h4); have BX4 := Aside0.mk (blk_below (blk_alloc HBX.out _) h4); have TB4 := Aside0.mk (blk_below (alloc_at wr (.cells #[.int .i64 t.f0, .int .i64 t.f1, .int .i64 t.f2, .slice A3 t.f3.length c3, .int .i64 t.f4] 43)) h4); clear h4 a0 a1 a2 a3 a4 hlk; have k4 : w4.cell? ⟨wr.heap.size, 4, none⟩ = some (.int .i64 t.f4) := blk_cell TB4.out 4))
             go_ret
             refine ⟨_, rfl, iff_of_false (by decide) (fun z => ?_), HB4.out⟩
             have z := (NX.out.1 z).1
             unfold okP at z
             exact Bool.noConfusion (z.2.2.2.symm.trans HF.out)
            ·have HF := Aside0.mk hfv
             clear hfv
             go_wp2_with (first | (go_at_call 32; (refine (fine_calls _ g w2.heap.size (some ad) c0 th (blk_cell (blk_alloc HGK.out _) 0) (Kd.C_below H0.out HB2.out) (blk_cell (blk_alloc HGB.out _) 0) HM.out A3 c3 t.f3 (Kd.C_below HC3.out HB2.out) HT3.out).mono ?_); rintro e w4 ⟨rfl, h4⟩; rw [HF.out]; have HB4 := Aside0.mk (below_step HB2.out h4); have M4 := Aside0.mk (HMA.out.kept (h4.block _ HMA.out.lt)); have G4 := Aside0.mk (blk_below (blk_alloc HGK.out _) h4); have GB4 := Aside0.mk (blk_below (blk_alloc HGB.out _) h4); have BX4 := Aside0.mk (blk_below (blk_alloc HBX.out _) h4); have TB4 := Aside0.mk (blk_below (alloc_at wr (.cells #[.int .i64 t.f0, .int .i64 t.f1, .int .i64 t.f2, .slice A3 t.f3.length c3, .int .i64 t.f4] 43)) h4); clear h4 a0 a1 a2 a3 a4 hlk; have k4 : w4.cell? ⟨wr.heap.size, 4, none⟩ = some (.int .i64 t.f4) := blk_cell TB4.out 4) | ((with_reducible refine gate_ (.mapUpdate 60 (.tmp 91) (.tmp 93) (.const (.bool true))) rfl ?_); refine wp_update rfl _ _ _ _ (.inl rfl) (Maps.int_keyed Try.underlying3) Try.underlying60 rfl M4.out (key := .int .i64 t.f4) (val := .bool true) rfl rfl HK.out ?_; intro w5 m5 u5; have M5 := Aside0.mk m5; have U5 := Aside0.mk u5; clear m5 u5 k4))
             go_roundg gk
             case measure => omega
             case rel =>
              refine ⟨j + 1, _, (by first | rfl | (simp; done) | (simp [*]; done)), ⟨by have := IJ.out; have := I2.out; omega⟩, ⟨by have := JK.out; omega⟩, ⟨U5.out.below HB4.out MB.out⟩, ⟨?_⟩, ⟨(U5.out.block _ (mapApart M4.out G4.out)).trans G4.out⟩, ⟨(U5.out.block _ (mapApart M4.out GB4.out)).trans GB4.out⟩, ⟨(U5.out.block _ (mapApart M4.out BX4.out)).trans BX4.out⟩, ⟨?_⟩⟩
              ·rw [SN.out, mOf_snoc]; exact M5.out
              ·rw [SN.out]; exact (NX.out.2 (by unfold okP; exact ⟨(by intro y; have y1 := Xp1.out; have y2 := Xp2.out; have y3 := Xp3.out; have y4 := Xp4.out; have y5 := Xp5.out; have y6 := Xp6.out; have y7 := Xp7.out; omega), (fun y => by have := Xr1.out; omega), (fun y => by have := Xf1.out; omega), HF.out⟩))
end Go.Proofs.Ytollnnbcfhnlfaa.Rg
