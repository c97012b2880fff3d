/- reach, part G7 of the hand texts (Cf, Co, Gv): what each part says stands at its head. -/
import Derived.Test.YtollnnbcfhnlfaaG6
/- reach: what Collect finds, in plain words, and the pieces of its walk. -/
set_option linter.unusedVariables false
set_option linter.unusedSimpArgs false
namespace Go.Proofs.Ytollnnbcfhnlfaa.Rg
open Go.RowKit Go.Proofs.Ytollnnbcfhnlfaa.QR Go.Proofs.YtollnnbcfhnlfaaW.PrintWords Go.Proofs.YtollnnbcfhnlfaaW.PrintLast Go.Proofs.YtollnnbcfhnlfaaW.PrintMore
def pendP (th : List S43) (first : List Bool) (i : Nat) : Bool := decide (0 < (rd_T43 th i).f4) && !rdOf false first i
/-- what is pending, as it is met -/
def pend0 (th : List S43) (first : List Bool) (j : Nat) : List Int := ((List.range j).filter (pendP th first)).map (fun i : Nat => (i : Int) + 1)
def pendF (th : List S43) (first : List Bool) : List Int := sortF th (pend0 th first th.length)
def clear1 (th : List S43) (live first : List Bool) (cl : List S49) (i : Nat) : List S49 :=
 if rdOf false live i = true ∧ weakF (rd_T43 th i).f0 (rd_T43 th i).f1 ≠ 0 then
  (slotsL (rd_T43 th i).f3.length (rd_T43 th i).f2).foldl (clearF th live first i (weakF (rd_T43 th i).f0 (rd_T43 th i).f1) (rd_T43 th i).f3) cl
 else cl
def clearedF (th : List S43) (live first : List Bool) : List S49 := (List.range th.length).foldl (clear1 th live first) []
theorem pend0_succ (th : List S43) (first : List Bool) (j : Nat) : pend0 th first (j + 1) = pend0 th first j ++ (if pendP th first j = true then [(j : Int) + 1] else []) := by
 unfold pend0
 rw [List.range_succ, List.filter_append, List.map_append]
 congr 1
 simp only [List.filter_cons, List.filter_nil]
 split <;> simp
theorem pend0_len (th : List S43) (first : List Bool) (j : Nat) : (pend0 th first j).length ≤ j := by
 unfold pend0
 rw [List.length_map]
 exact Nat.le_trans (List.length_filter_le _ _) (by simp)
theorem pend0_bd (th : List S43) (first : List Bool) (j : Nat) (hj : j ≤ th.length) : ∀ x ∈ pend0 th first j, 1 ≤ x ∧ x ≤ (th.length : Nat) := by
 intro x hx
 unfold pend0 at hx
 obtain ⟨i, hi, rfl⟩ := List.mem_map.1 hx
 have := List.mem_range.1 (List.mem_filter.1 hi).1
 omega
theorem clearF_len (th : List S43) (live first : List Bool) (i wv : Int) (sl : List S40) (cl : List S49) (q : Int × Int) : (clearF th live first i wv sl cl q).length ≤ cl.length + 1 := by
 unfold clearF
 split
 ·simp
 ·omega
theorem clearFs_len (th : List S43) (live first : List Bool) (i wv : Int) (sl : List S40) (l : List (Int × Int)) : ∀ cl : List S49, (l.foldl (clearF th live first i wv sl) cl).length ≤ cl.length + l.length := by
 induction l with
 | nil => intro cl; simp
 | cons q l ih =>
  intro cl
  have := ih (clearF th live first i wv sl cl q)
  have := clearF_len th live first i wv sl cl q
  simp only [List.foldl_cons, List.length_cons]
  omega
theorem slotsL_len (L : Nat) (arr : Int) : (slotsL L arr).length ≤ L := by
 unfold slotsL sl3
 rw [List.length_append, List.length_append, sl1_len, sl2_len]
 have h1 : sA L arr ≤ L - 1 := Nat.min_le_left _ _
 have h2 : sP L arr = (L - (1 + sA L arr)) / 2 := rfl
 split
 ·simp only [List.length_singleton]; omega
 ·simp only [List.length_nil]; omega
theorem clear1_len (th : List S43) (live first : List Bool) (cl : List S49) (i : Nat) (hi : i < th.length) (hsl : ∀ t ∈ th, t.f3.length ≤ 1000) : (clear1 th live first cl i).length ≤ cl.length + 1000 := by
 unfold clear1
 split
 ·have h1 := clearFs_len th live first i (weakF (rd_T43 th i).f0 (rd_T43 th i).f1) (rd_T43 th i).f3 (slotsL (rd_T43 th i).f3.length (rd_T43 th i).f2) cl
  have h2 := slotsL_len (rd_T43 th i).f3.length (rd_T43 th i).f2
  have h3 := hsl (rd_T43 th i) (by rw [rd43_get hi]; exact List.getElem_mem _)
  omega
 ·omega
def CollectPost (W : World) (th : List S43) (rt : List S40) (e : Ending) (W' : World) : Prop :=
 ∃ lv pv cv first live, e = .returned (.agg #[lv, pv, cv]) ∧ StrongR th rt [] first ∧ StrongR th rt (pendF th first) live ∧ Kd.R Kd.bool 4 W' W.heap.size (fun _ => True) lv live ∧ Kd.R (Kd.int .i64) 3 W' W.heap.size (fun _ => True) pv (pendF th first) ∧
  Kd.R k49 49 W' W.heap.size (fun _ => True) cv (clearedF th live first) ∧ Below W.heap.size W W'
theorem Drain.fine {th : List S43} {s s' : St} (h : Drain th s s') (F : Fine th s) : Fine th s' := by
 induction h with
 | nil _ => exact F
 | step _ _ ih => exact ih F.pop
theorem Spr.fine {th : List S43} {s s' : St} (h : Spr th s s') (F : Fine th s) : Fine th s' := by
 induction h with
 | nil _ => exact F
 | step _ hd _ ih => exact ih (fine_sweeps (hd.fine F) _).1
theorem fine_roots (th : List S43) (rt : List S40) : Fine th (rootsF th rt) := by
 unfold rootsF
 have : ∀ (l : List S40) (s : St), Fine th s → Fine th (l.foldl (fun s v => needF th s.1 s.2 v.f0 v.f1) s) := by
  intro l
  induction l with
  | nil => exact fun s F => F
  | cons x l ih => exact fun s F => ih _ (F.need _ _)
 exact this rt _ (fine0 th)
theorem Fine.more1 {th : List S43} {s : St} (F : Fine th s) (h : Int) : Fine th (more1 th s h) := by
 unfold Rg.more1
 split
 ·rename_i hh
  exact (F.need _ _).force h hh.1 hh.2
 ·exact F
theorem fine_start (th : List S43) (rt : List S40) (mo : List Int) : Fine th (startF th rt mo) := by
 unfold startF
 have : ∀ (l : List Int) (s : St), Fine th s → Fine th (l.foldl (more1 th) s) := by
  intro l
  induction l with
  | nil => exact fun s F => F
  | cons x l ih => exact fun s F => ih _ (F.more1 _)
 exact this mo _ (fine_roots th rt)
theorem StrongR.len {th : List S43} {rt : List S40} {mo : List Int} {r : List Bool} (h : StrongR th rt mo r) : r.length = th.length := by
 obtain ⟨s', h1, rfl⟩ := h
 exact (h1.fine (fine_start th rt mo)).len
end Go.Proofs.Ytollnnbcfhnlfaa.Rg

/- reach: Collect, walked. -/
set_option linter.unusedVariables false
set_option linter.unusedSimpArgs false
namespace Go.Proofs.Ytollnnbcfhnlfaa.Rg
open Go.RowKit Go.Proofs.Ytollnnbcfhnlfaa.QR Go.Proofs.YtollnnbcfhnlfaaW.PrintWords Go.Proofs.YtollnnbcfhnlfaaW.PrintLast Go.Proofs.YtollnnbcfhnlfaaW.PrintMore
theorem CI.weak {p : CP} {w wx : World} {kb : List KB} {cl : List S49} (h : CI p w kb cl) (hb : Below w.heap.size w wx) (kind weak arr fin : Int) (A : Option Addr) (n c : Nat) : Calls Try.prog 37 #[.agg #[.int .i64 kind, .int .i64 weak, .int .i64 arr, .slice A n c, .int .i64 fin]] wx fun e w' => e = .returned (.int .i64 (weakF kind weak)) ∧ CI p w' kb cl :=
 (weak_calls _ kind weak arr fin _ rfl _ _ _ rfl).mono fun e w' ⟨e1, e2⟩ => ⟨e1, h.below (below_step hb e2)⟩
theorem CI.step {p : CP} {w wx : World} {kb : List KB} {cl : List S49} (h : CI p w kb cl) (hb : Below w.heap.size w wx) (hC : Kd.C Go.Proofs.Ytollnnbcfhnlfaa.QR.k43 p.W p.A0 p.th.length p.th) (hm : p.th.length ≤ 1000000) (hlv : p.live.length = p.th.length) (hfs : p.first.length = p.th.length) {tb wb xb fb ib : Nat} {kind wk arr fin : Int} {A : Option Addr} {sl : List S40} {c : Nat} {i wv : Int}
  (ca : Cap kb p tb wb xb fb ib kind wk arr fin A sl.length c i wv) (hS : Kd.C k40 p.W A sl.length sl) (hi0 : 0 ≤ i) (hi1 : i < p.th.length) (hcl : cl.length ≤ 100000000) (key value : Int) (hv0 : 0 ≤ value) (hv1 : value < sl.length) (hk1 : key < sl.length) :
  Calls Try.prog 39 #[.int .i64 key, .int .i64 value, .pointer (some ⟨tb, 0, none⟩), .pointer (some ⟨wb, 0, none⟩), .pointer (some ⟨xb, 0, none⟩), .pointer (some ⟨p.ob, 0, none⟩), .pointer (some ⟨fb, 0, none⟩), .pointer (some ⟨ib, 0, none⟩)] wx fun e W' => e = .returned (.tuple #[]) ∧ CI p W' kb (clearF p.th p.live p.first i wv sl cl (key, value)) ∧ ∀ (k : Nat) (cs : Array Value), w.heap[k]? = some (.cells cs 43 (0, 0)) → W'.heap[k]? = some (.cells cs 43 (0, 0)) := by
 obtain ⟨ad, rfl, _⟩ := at_T40 hS value hv0 hv1
 exact (clear_calls p wx kb cl (h.below hb) hC hm hlv hfs tb wb xb fb ib kind wk arr fin ad sl c i wv ca hS hi0 hi1 hcl key value hv0 hv1 hk1).mono fun e W' ⟨e1, e2, e3⟩ => ⟨e1, e2, fun k cs hk => e3 k cs (blk_below hk hb)⟩
set_option maxHeartbeats 16000000 in
set_option maxRecDepth 100000 in
theorem collect_calls (W : World) (A0 : Option Addr) (c0 : Nat) (th : List S43) (A1 : Option Addr) (c1 : Nat) (rt : List S40) (h0 : Kd.C k43 W A0 th.length th) (h1 : Kd.C k40 W A1 rt.length rt) (hm : th.length ≤ 1000) (hsl : ∀ t ∈ th, t.f3.length ≤ 1000) (hrl : rt.length ≤ 1000000) :
  Calls Try.prog 18 #[.agg #[.slice A0 th.length c0, .slice A1 rt.length c1]] W (CollectPost W th rt) := by
 have HM := Aside0.mk (show th.length ≤ 1000000 by omega)
 have HM' := Aside0.mk hm
 have HSL := Aside0.mk (show ∀ t ∈ th, t.f3.length ≤ 1000000 from fun t ht => Nat.le_trans (hsl t ht) (by decide))
 have HSL' := Aside0.mk hsl
 have HRL := Aside0.mk hrl
 obtain ⟨W1, hW1⟩ : ∃ W1, W1 = ((W.alloc (.cells #[.slice A0 th.length c0, .slice A1 rt.length c1] 25)).alloc (.cells #[.slice none 0 0, .slice none 0 0, .slice none 0 0] 37)) := ⟨_, rfl⟩
 have hb0 : Below W.heap.size W W1 := by rw [hW1]; exact below_alloc (below_alloc (Below.refl _ _) _) _
 have bx : W1.heap[W.heap.size]? = some (.cells #[.slice A0 th.length c0, .slice A1 rt.length c1] 25 (0, 0)) := by rw [hW1]; exact blk_alloc (alloc_at _ _) _
 have b2 : W1.heap[W.heap.size + 1]? = some (.cells #[.slice none 0 0, .slice none 0 0, .slice none 0 0] 37 (0, 0)) := by
  rw [hW1]
  have := alloc_at (W.alloc (.cells #[.slice A0 th.length c0, .slice A1 rt.length c1] 25)) (.cells #[.slice none 0 0, .slice none 0 0, .slice none 0 0] 37)
  rwa [show (W.alloc (.cells #[.slice A0 th.length c0, .slice A1 rt.length c1] 25)).heap.size = W.heap.size + 1 by simp] at this
 have HB0 := Aside0.mk hb0
 have BXX := Aside0.mk bx
 have BT2 := Aside0.mk b2
 have H0 := Aside0.mk (Kd.C_below h0 hb0)
 have H1 := Aside0.mk (Kd.C_below h1 hb0)
 have HN := Aside0.mk (show Kd.C (Kd.int .i64) W1 none ([] : List Int).length [] from by
  have := (Kd.R_reads' (Kd.R_nil (Kd.int .i64) 3 W1 0 (fun _ => True))).2.2
  exact this)
 have q0 : W1.cell? ⟨W.heap.size, 0, none⟩ = some (.slice A0 th.length c0) := blk_cell bx 0
 have q1 : W1.cell? ⟨W.heap.size, 1, none⟩ = some (.slice A1 rt.length c1) := blk_cell bx 1
 have sc0 := strong_calls W1 A0 c0 th A1 c1 rt H0.out H1.out HM.out HSL.out HRL.out none 0 [] HN.out (by decide)
 simp only [List.length_nil] at sc0
 have SC0 := Aside0.mk sc0
 clear sc0
 have HW1 := Aside0.mk hW1
 replace hW1 := hW1.symm
 clear hm hsl hrl h0 h1 hb0 bx b2
 go_enter Try.func18, Try.ntmps18
 go_wp2_with (first | (go_at_call 13; (with_reducible refine SC0.out.mono ?_); rintro e w2 ⟨nv, first, rfl, hs, hr, hb2⟩; obtain ⟨An, cn, rfl⟩ := Kd.R_slice hr; have ST := Aside0.mk hs; have RF := Aside0.mk hr; have HB2 := Aside0.mk hb2; clear hs hr hb2 q0 q1; obtain ⟨W4, hW4⟩ : ∃ W4, W4 = ((w2.alloc (.cells #[.slice An first.length cn] 30)).alloc (.cells #[.slice none 0 0, .slice none 0 0, .slice none 0 0] 37)) := ⟨_, rfl⟩; have b4 := below_alloc (below_alloc HB2.out (.cells #[.slice An first.length cn] 30)) (.cells #[.slice none 0 0, .slice none 0 0, .slice none 0 0] 37); rw [← hW4] at b4; have HB4 := Aside0.mk b4; have q0 : W4.cell? ⟨W.heap.size, 0, none⟩ = some (.slice A0 th.length c0) := blk_cell (blk_below BXX.out b4) 0; clear b4; have HW4 := Aside0.mk hW4; replace hW4 := hW4.symm))
 have ob4 : W4.heap[w2.heap.size + 1]? = some (.cells #[.slice none 0 0, .slice none 0 0, .slice none 0 0] 37 (0, 0)) := by
  rw [HW4.out]
  have := alloc_at (w2.alloc (.cells #[.slice An first.length cn] 30)) (.cells #[.slice none 0 0, .slice none 0 0, .slice none 0 0] 37)
  rwa [show (w2.alloc (.cells #[.slice An first.length cn] 30)).heap.size = w2.heap.size + 1 by simp] at this
 have fb4 : W4.heap[w2.heap.size]? = some (.cells #[.slice An first.length cn] 30 (0, 0)) := by
  rw [HW4.out]
  exact blk_alloc (alloc_at _ _) _
 have rf4 : Kd.R Kd.bool 4 W4 W1.heap.size (fun _ => True) (.slice An first.length cn) first := by
  rw [HW4.out]
  exact Kd.R_alloc (Kd.R_alloc RF.out _) _
 have OB4 := Aside0.mk ob4
 have FB4 := Aside0.mk fb4
 have RF4 := Aside0.mk rf4
 have OBG := Aside0.mk (show W1.heap.size ≤ w2.heap.size + 1 by have := HB2.out.size; omega)
 have FL := Aside0.mk ST.out.len
 clear q0 ob4 fb4 rf4
 go_loopg [16] th.length (fun kq v w' => ∃ (j : Nat) (i : Int) (pv : Value), v = .int .i64 i ∧ Aside0 (i = j) ∧ Aside0 (j + kq = th.length) ∧ Aside0 (Below W1.heap.size W1 w') ∧ Aside0 (w'.heap[(w2.heap.size + 1)]? = some (.cells #[.slice none 0 0, pv, .slice none 0 0] 37 (0, 0)) ∧ Kd.R (Kd.int .i64) 3 w' W1.heap.size (fun _ => True) pv (pend0 th first j)) ∧ Aside0 (Kd.R Kd.bool 4 w' W1.heap.size (fun _ => True) (.slice An first.length cn) first) ∧ Aside0 (w'.heap[w2.heap.size]? = some (.cells #[.slice An first.length cn] 30 (0, 0))))
 case atStart => exact ⟨0, 0, .slice none 0 0, rfl, ⟨rfl⟩, ⟨by omega⟩, HB4, ⟨OB4.out, Kd.R_nil _ _ _ _ _⟩, RF4, FB4⟩
 case round =>
  obtain ⟨j, i, pv, hv, IJ, JK, HB, BR, RF1, BF⟩ := hrel
  subst hv
  obtain ⟨bo, rp⟩ := BR.out
  have BO := Aside0.mk bo
  have RP := Aside0.mk rp
  clear bo rp BR
  have ij := IJ.out
  have jk := JK.out
  have hmm := HM.out
  rcases gk with _ | gk
  ·have ct1 : decide (i < (th.length : Int)) = false := decide_eq_false (by omega)
   
   have PB := Aside0.mk (pend0_bd th first j (by omega))
   have PLN := Aside0.mk (show (pend0 th first j).length ≤ 1000000 by have := pend0_len th first j; omega)
   have JE := Aside0.mk (show j = th.length by omega)
   have bx0 := blk_below BXX.out HB.out
   have BX := Aside0.mk bx0
   have z1 : wr.cell? ⟨w2.heap.size + 1, 1, none⟩ = some pv := blk_cell BO.out 1
   have hmf : ∀ (fn : Fn) (first cap : Array Value) (w : World), (Instr.makeFunc fn first cap).run Try.prog w = .ok (.func fn first cap) w := fun _ _ _ _ => rfl
   clear ij jk hmm bx0
   go_wp2_with (first
    | (go_at_call 35; (with_reducible refine (sort_calls W1 _ HB.out W.heap.size A0 c0 th (.slice A1 rt.length c1) BX.out H0.out HM.out pv _ RP.out PB.out PLN.out).mono ?_); rintro e w5 ⟨rfl, rs, hg5⟩; have hb5 := pw_below_grown HB.out _ HB.out.size hg5 (Kd.R_base RP.out); have HB5 := Aside0.mk hb5; have BO5 := Aside0.mk (blk_grown BO.out hg5 (Kd.R_ne RP.out BO.out (by decide))); have RF5 := Aside0.mk (Kd.R_over RF1.out RP.out (by decide) hg5); have BF5 := Aside0.mk (blk_grown BF.out hg5 (Kd.R_ne RP.out BF.out (by decide))); obtain ⟨Ap, cp, hp⟩ := Kd.R_slice rs; subst hp; obtain ⟨pl, hpl⟩ : ∃ pl, sortF th (pend0 th first j) = pl := ⟨_, rfl⟩; rw [hpl] at rs BO5 z1; have RP5 := Aside0.mk rs; have PL := Aside0.mk hpl; have y1 : w5.cell? ⟨w2.heap.size + 1, 1, none⟩ = some (.slice Ap pl.length cp) := blk_cell BO5.out 1; have q0 : w5.cell? ⟨W.heap.size, 0, none⟩ = some (.slice A0 th.length c0) := blk_cell (blk_below BXX.out hb5) 0; have q1 : w5.cell? ⟨W.heap.size, 1, none⟩ = some (.slice A1 rt.length c1) := blk_cell (blk_below BXX.out hb5) 1; clear z1 rs hg5 hb5 hpl HB RP BO RF1 BF)
    | (go_at_call 13; (with_reducible refine (strong_calls _ A0 c0 th A1 c1 rt (Kd.C_below H0.out HB5.out) (Kd.C_below H1.out HB5.out) HM.out HSL.out HRL.out Ap cp pl (Kd.R_reads' RP5.out).2.2 (by have := PL.out; have h_ := PLN.out; rw [← this]; unfold sortF; rw [List.length_mergeSort]; exact h_)).mono ?_); rintro e w6 ⟨lv, live, rfl, hs, hr, hb6⟩; obtain ⟨Al, lc, rfl⟩ := Kd.R_slice hr; have SL := Aside0.mk hs; have BO6 := Aside0.mk (blk_below BO5.out hb6); have z0 : w6.cell? ⟨w2.heap.size + 1, 0, none⟩ = some (.slice none 0 0) := blk_cell BO6.out 0; have f0 := blk_frozen BO6.out 0; obtain ⟨W7, hW7⟩ : ∃ W7, W7 = w6.setCell ⟨w2.heap.size + 1, 0, none⟩ (.slice Al live.length lc) := ⟨_, rfl⟩; have hb7 : Below W1.heap.size W1 W7 := (by rw [hW7]; exact below_set (below_step HB5.out hb6) OBG.out); have HB7 := Aside0.mk hb7; have BO7 := Aside0.mk (show W7.heap[w2.heap.size + 1]? = some (.cells #[.slice Al live.length lc, .slice Ap pl.length cp, .slice none 0 0] 37 (0, 0)) by rw [hW7]; simp [World.setCell, Array.getElem?_modify, BO6.out]); have RL7 := Aside0.mk (show Kd.R Kd.bool 4 W7 W1.heap.size (fun _ => True) (.slice Al live.length lc) live by rw [hW7]; exact Kd.R_set (Kd.R_lower hr HB5.out.size) BO6.out (by decide) _ _); have RF7 := Aside0.mk (show Kd.R Kd.bool 4 W7 W1.heap.size (fun _ => True) (.slice An first.length cn) first by rw [hW7]; exact Kd.R_set (Kd.R_below RF5.out hb6) BO6.out (by decide) _ _); have RP7 := Aside0.mk (show Kd.R (Kd.int .i64) 3 W7 W1.heap.size (fun _ => True) (.slice Ap pl.length cp) pl by rw [hW7]; exact Kd.R_set (Kd.R_below RP5.out hb6) BO6.out (by decide) _ _); have BF7 := Aside0.mk (show W7.heap[w2.heap.size]? = some (.cells #[.slice An first.length cn] 30 (0, 0)) by rw [hW7]; exact blk_far (blk_below BF5.out hb6) (by intro z; exact absurd z (by show ¬ (w2.heap.size = w2.heap.size + 1); omega)) _); clear y1 q0 q1; have q0 : W7.cell? ⟨W.heap.size, 0, none⟩ = some (.slice A0 th.length c0) := blk_cell (blk_below BXX.out hb7) 0; have q1 : W7.cell? ⟨W.heap.size, 1, none⟩ = some (.slice A1 rt.length c1) := blk_cell (blk_below BXX.out hb7) 1; clear hs hr hb6 hb7; replace hW7 := hW7.symm)
    | (go_at_call 27; (with_reducible refine (open_calls _ A0 c0 th A1 c1 rt (Kd.C_below H0.out HB7.out) (Kd.C_below H1.out HB7.out) HM.out).mono ?_); rintro e w8 ⟨g, xv, rfl, hg⟩; have HG := Aside0.mk hg; clear hg q0 q1; obtain ⟨W9, hW9⟩ : ∃ W9, W9 = w8.alloc (.cells #[.pointer (some ⟨g, 0, none⟩)] 53) := ⟨_, rfl⟩; have b9 : Below W7.heap.size W7 W9 := (by rw [hW9]; exact below_alloc HG.out.b _); have HB9 := Aside0.mk b9; have G9 := Aside0.mk (show W9.heap[g]? = some (.cells #[.slice A0 th.length c0, .slice A1 rt.length c1, xv, .slice none 0 0] 58 (0, 0)) by rw [hW9]; exact blk_alloc HG.out.blk _); have X9 := Aside0.mk (show W9.heap[w8.heap.size]? = some (.cells #[.pointer (some ⟨g, 0, none⟩)] 53 (0, 0)) by rw [hW9]; exact alloc_at _ _); have r0 : W9.cell? ⟨W.heap.size, 0, none⟩ = some (.slice A0 th.length c0) := blk_cell (blk_below BXX.out (below_step HB7.out b9)) 0; clear b9; replace hW9 := hW9.symm))
   clear r0
   have CI0 := Aside0.mk (show CI (⟨W1, A0, c0, th, live, first, pl, w2.heap.size + 1, .slice Al live.length lc, .slice Ap pl.length cp, .slice An first.length cn, g, .slice A1 rt.length c1, xv, .slice none 0 0⟩ : CP) W9 [(w8.heap.size, #[.pointer (some ⟨g, 0, none⟩)], 53), (w2.heap.size, #[.slice An first.length cn], 30)] [] from ⟨below_step HB7.out HB9.out, ⟨_, blk_below BO7.out HB9.out, Kd.R_nil _ _ _ _ _⟩, Kd.R_below RL7.out HB9.out, Kd.R_below RF7.out HB9.out, Kd.R_below RP7.out HB9.out, OBG.out, (by
    intro b hb
    rcases List.mem_cons.1 hb with e | hb
    ·subst e; exact ⟨X9.out, (show (53 : Nat) ≠ 37 by decide), (show (53 : Nat) ≠ 49 by decide)⟩
    ·rcases List.mem_cons.1 hb with e | hb
     ·subst e; exact ⟨blk_below BF7.out HB9.out, (show (30 : Nat) ≠ 37 by decide), (show (30 : Nat) ≠ 49 by decide)⟩
     ·cases hb), G9.out⟩)
   have LL := Aside0.mk SL.out.len
   go_loopg [53] th.length (fun kq v w' => ∃ (j : Nat) (i : Int), v = .int .i64 i ∧ Aside0 (i = j) ∧ Aside0 (j + kq = th.length) ∧ Aside0 (CI (⟨W1, A0, c0, th, live, first, pl, w2.heap.size + 1, .slice Al live.length lc, .slice Ap pl.length cp, .slice An first.length cn, g, .slice A1 rt.length c1, xv, .slice none 0 0⟩ : CP) w' [(w8.heap.size, #[.pointer (some ⟨g, 0, none⟩)], 53), (w2.heap.size, #[.slice An first.length cn], 30)] ((List.range j).foldl (clear1 th live first) [])) ∧ Aside0 (((List.range j).foldl (clear1 th live first) []).length ≤ 1000 * j))
   case atStart => exact ⟨0, 0, rfl, ⟨rfl⟩, ⟨by omega⟩, CI0, ⟨by simp⟩⟩
   case round =>
    obtain ⟨j, i, hv, IJ, JK, HI, LN⟩ := hrel
    subst hv
    clear CI0
    have ij := IJ.out
    have jk := JK.out
    have hmm := HM.out
    rcases gk with _ | gk
    ·have ct2 : decide (i < (th.length : Int)) = false := decide_eq_false (by omega)
     have JE2 := Aside0.mk (show j = th.length by omega)
     clear ij jk hmm
     obtain ⟨cv, bo, rc, cc⟩ := HI.out.cleared
     obtain ⟨Ac, ccap, hcv⟩ := Kd.R_slice rc
     subst hcv
     obtain ⟨cll, hcll⟩ : ∃ x, (List.range j).foldl (clear1 th live first) [] = x := ⟨_, rfl⟩
     rw [hcll] at bo rc
     have CLL := Aside0.mk hcll
     have RC := Aside0.mk rc
     have y0 : wr.cell? ⟨w2.heap.size + 1, 0, none⟩ = some (.slice Al live.length lc) := blk_cell bo 0
     have y1 : wr.cell? ⟨w2.heap.size + 1, 1, none⟩ = some (.slice Ap pl.length cp) := blk_cell bo 1
     have y2 : wr.cell? ⟨w2.heap.size + 1, 2, none⟩ = some (.slice Ac cll.length ccap) := blk_cell bo 2
     have bt := blk_below BT2.out HI.out.base
     have t0 : wr.cell? ⟨W.heap.size + 1, 0, none⟩ = some (.slice none 0 0) := blk_cell bt 0
     have t1 : wr.cell? ⟨W.heap.size + 1, 1, none⟩ = some (.slice none 0 0) := blk_cell bt 1
     have t2 : wr.cell? ⟨W.heap.size + 1, 2, none⟩ = some (.slice none 0 0) := blk_cell bt 2
     have g0 := blk_frozen bt 0
     have g1 := blk_frozen bt 1
     have g2 := blk_frozen bt 2
     have BT := Aside0.mk bt
     have r1 := Aside0.mk (show Kd.R Kd.bool 4 wr W1.heap.size (fun _ => True) (.slice Al live.length lc) live from HI.out.2.2.1)
     have r2 := Aside0.mk (show Kd.R (Kd.int .i64) 3 wr W1.heap.size (fun _ => True) (.slice Ap pl.length cp) pl from HI.out.2.2.2.2.1)
     clear bo rc cc hcll bt
     go_wp2
     obtain ⟨WE, hWE⟩ : ∃ WE, WE = (((wr.setCell ⟨W.heap.size + 1, 0, none⟩ (.slice Al live.length lc)).setCell ⟨W.heap.size + 1, 1, none⟩ (.slice Ap pl.length cp)).setCell ⟨W.heap.size + 1, 2, none⟩ (.slice Ac cll.length ccap)) := ⟨_, rfl⟩
     have s1 : (wr.setCell ⟨W.heap.size + 1, 0, none⟩ (.slice Al live.length lc)).heap[W.heap.size + 1]? = some (.cells #[.slice Al live.length lc, .slice none 0 0, .slice none 0 0] 37 (0, 0)) := by simp [World.setCell, Array.getElem?_modify, BT.out]
     have s2 : ((wr.setCell ⟨W.heap.size + 1, 0, none⟩ (.slice Al live.length lc)).setCell ⟨W.heap.size + 1, 1, none⟩ (.slice Ap pl.length cp)).heap[W.heap.size + 1]? = some (.cells #[.slice Al live.length lc, .slice Ap pl.length cp, .slice none 0 0] 37 (0, 0)) := by
      generalize wr.setCell ⟨W.heap.size + 1, 0, none⟩ (.slice Al live.length lc) = wq at s1 ⊢
      simp [World.setCell, Array.getElem?_modify, s1]
     have be : WE.heap[W.heap.size + 1]? = some (.cells #[.slice Al live.length lc, .slice Ap pl.length cp, .slice Ac cll.length ccap] 37 (0, 0)) := by
      rw [hWE]
      generalize (wr.setCell ⟨W.heap.size + 1, 0, none⟩ (.slice Al live.length lc)).setCell ⟨W.heap.size + 1, 1, none⟩ (.slice Ap pl.length cp) = wq at s2 ⊢
      simp [World.setCell, Array.getElem?_modify, s2]
     have HBW : Below W.heap.size W WE := by
      rw [hWE]
      exact below_set (below_set (below_set (below_step HB0.out HI.out.base) (by omega)) (by omega)) (by omega)
     have RR : ∀ {α : Type} {d : Kd α} {e : Nat} {v : Value} {xs : List α}, Kd.R d e wr W1.heap.size (fun _ => True) v xs → (∀ q, q ∈ e :: d.E → q ≠ 37) → Kd.R d e WE W.heap.size (fun _ => True) v xs := by
      intro α d e v xs hR hq
      rw [hWE]
      exact Kd.R_lower (Kd.R_set (Kd.R_set (Kd.R_set hR BT.out hq _ _) s1 hq _ _) s2 hq _ _) HB0.out.size
     rw [← hWE]
     have e0 : WE.cell? ⟨W.heap.size + 1, 0, none⟩ = some (.slice Al live.length lc) := blk_cell be 0
     have e1 : WE.cell? ⟨W.heap.size + 1, 1, none⟩ = some (.slice Ap pl.length cp) := blk_cell be 1
     have e2 : WE.cell? ⟨W.heap.size + 1, 2, none⟩ = some (.slice Ac cll.length ccap) := blk_cell be 2
     refine bodyPost_ret (results_cell_row rfl _ _ (W.heap.size + 1) 37 #[.slice Al live.length lc, .slice Ap pl.length cp, .slice Ac cll.length ccap] (0, 0) _ rfl be Try.underlying37 rfl (by kernel_rfl)) rfl ?_
     have hpe : pendF th first = pl := by unfold pendF; rw [← PL.out, JE.out]
     refine ⟨_, _, _, first, live, rfl, ST.out, ?_, RR r1.out (by decide), ?_, ?_, HBW⟩
     ·rw [hpe]; exact SL.out
     ·rw [hpe]; exact RR r2.out (by decide)
     ·have h := RR RC.out (by decide)
      rw [← CLL.out, JE2.out] at h
      rw [← CLL.out, JE2.out]
      exact h
    ·have i0 : 0 ≤ i := by omega
     have i1 : i < (th.length : Int) := by omega
     obtain ⟨i2, hi2⟩ : ∃ x : Int, i + 1 = x := ⟨_, rfl⟩
     have ew2 : IntKind.i64.wrap (i + 1) = i2 := (i64_w _).trans ((w64i_ (by omega) (by omega)).trans hi2)
     have ct2 : decide (i < (th.length : Int)) = true := decide_eq_true i1
     obtain ⟨ad, A3, c3, hA, x0, x1, x2, x3, x4, hl3, hC⟩ := at_T43 H0.out i i0 i1
     subst hA
     have tr : ∀ {q : Addr} {v : Value}, W1.cell? q = some v → wr.cell? q = some v := fun hq => (HI.out.base.cell (cell_lt hq)).trans hq
     replace x0 := tr x0
     replace x1 := tr x1
     replace x2 := tr x2
     replace x3 := tr x3
     replace x4 := tr x4
     clear tr
     obtain ⟨t, ht⟩ : ∃ t, rd_T43 th i = t := ⟨_, rfl⟩
     rw [ht] at x0 x1 x2 x3 x4 hC
     have HT := Aside0.mk ht
     have I2 := Aside0.mk hi2
     have HC3 := Aside0.mk hC
     have I01 := Aside0.mk (show 0 ≤ i ∧ i < th.length from ⟨i0, i1⟩)
     have JL := Aside0.mk (show j < th.length by omega)
     have T3 := Aside0.mk (show t.f3.length ≤ 1000 by
      rw [← ht, ij, rd43_get JL.out]
      exact HSL'.out _ (List.getElem_mem _))
     have HT' := Aside0.mk (show rd_T43 th j = t by rw [← ht, ij])
     have hbw := HI.out
     have es : (wr.alloc (.cells #[.int .i64 i] 3)).heap.size = wr.heap.size + 1 := by simp
     have h1 := (HI.out.box #[.int .i64 i] 3).box #[.int .i64 t.f0, .int .i64 t.f1, .int .i64 t.f2, .slice A3 t.f3.length c3, .int .i64 t.f4] 43
     rw [es] at h1
     obtain ⟨WB, hWB⟩ : ∃ WB, WB = (wr.alloc (.cells #[.int .i64 i] 3)).alloc (.cells #[.int .i64 t.f0, .int .i64 t.f1, .int .i64 t.f2, .slice A3 t.f3.length c3, .int .i64 t.f4] 43) := ⟨_, rfl⟩
     rw [← hWB] at h1
     have HIB := Aside0.mk h1
     have tbk : WB.heap[wr.heap.size + 1]? = some (.cells #[.int .i64 t.f0, .int .i64 t.f1, .int .i64 t.f2, .slice A3 t.f3.length c3, .int .i64 t.f4] 43 (0, 0)) := h1.blk (List.Mem.head _)
     have a0 : WB.cell? ⟨wr.heap.size + 1, 0, none⟩ = some (.int .i64 t.f0) := blk_cell tbk 0
     have a1 : WB.cell? ⟨wr.heap.size + 1, 1, none⟩ = some (.int .i64 t.f1) := blk_cell tbk 1
     have a2 : WB.cell? ⟨wr.heap.size + 1, 2, none⟩ = some (.int .i64 t.f2) := blk_cell tbk 2
     have a3 : WB.cell? ⟨wr.heap.size + 1, 3, none⟩ = some (.slice A3 t.f3.length c3) := blk_cell tbk 3
     have a4 : WB.cell? ⟨wr.heap.size + 1, 4, none⟩ = some (.int .i64 t.f4) := blk_cell tbk 4
     have i3 : i < (live.length : Int) := by have := LL.out; omega
     obtain ⟨gl, lc', e1, _⟩ := Kd.R_form HI.out.2.2.1 (by show 0 < live.length; omega)
     replace e1 : Value.slice Al live.length lc = .slice (some ⟨gl, 0, none⟩) live.length lc' := e1
     injection e1 with e1 _ e3
     subst e1
     subst e3
     obtain ⟨wv, hwv⟩ : ∃ wv, weakF t.f0 t.f1 = wv := ⟨_, rfl⟩
     have HWV := Aside0.mk hwv
     obtain ⟨cl, hcl⟩ : ∃ x, (List.range j).foldl (clear1 th live first) [] = x := ⟨_, rfl⟩
     rw [hcl] at h1
     have HIB := Aside0.mk h1
     have CL := Aside0.mk hcl
     have LN' := Aside0.mk (show cl.length ≤ 1000 * j by rw [← hcl]; exact LN.out)
     have JM := Aside0.mk (show j ≤ 1000 by have := HM'.out; omega)
     replace i0 := eq_true i0
     replace i1 := eq_true i1
     replace i3 := eq_true i3
     replace hWB := hWB.symm
     clear ij jk hmm hi2 hC ht hl3 hbw es h1 tbk hwv hcl
     rcases hlb : rdOf false live i with _ | _
     ·have DN := Aside0.mk (show clear1 th live first cl j = cl by
       unfold clear1
       refine if_neg (fun z => ?_)
       rw [← IJ.out, hlb] at z
       cases z.1)
      have HLB := Aside0.mk hlb
      clear hlb
      go_wp2_with (first | (go_at_call 37; (with_reducible refine (HIB.out.weak (Below.refl _ _) _ _ _ _ _ _ _).mono ?_); rintro e w10 ⟨rfl, h10⟩; rw [HWV.out]; clear a0 a1 a2 a3 a4; obtain ⟨W11, hW11⟩ : ∃ W11, W11 = w10.alloc (.cells #[.int .i64 wv] 3) := ⟨_, rfl⟩; have h11 := h10.box #[.int .i64 wv] 3; rw [← hW11] at h11; have HI11 := Aside0.mk h11; have k11 := h11.blk (b := wr.heap.size + 1) (cs := #[.int .i64 t.f0, .int .i64 t.f1, .int .i64 t.f2, .slice A3 t.f3.length c3, .int .i64 t.f4]) (T := 43) (List.Mem.tail _ (List.Mem.head _)); have a0 : W11.cell? ⟨wr.heap.size + 1, 0, none⟩ = some (.int .i64 t.f0) := blk_cell k11 0; have a1 : W11.cell? ⟨wr.heap.size + 1, 1, none⟩ = some (.int .i64 t.f1) := blk_cell k11 1; have a2 : W11.cell? ⟨wr.heap.size + 1, 2, none⟩ = some (.int .i64 t.f2) := blk_cell k11 2; have a3 : W11.cell? ⟨wr.heap.size + 1, 3, none⟩ = some (.slice A3 t.f3.length c3) := blk_cell k11 3; have a4 : W11.cell? ⟨wr.heap.size + 1, 4, none⟩ = some (.int .i64 t.f4) := blk_cell k11 4; have wb0 : W11.cell? ⟨w10.heap.size, 0, none⟩ = some (.int .i64 wv) := blk_cell (h11.blk (b := w10.heap.size) (cs := #[.int .i64 wv]) (T := 3) (List.Mem.head _)) 0; have ib0 : W11.cell? ⟨wr.heap.size, 0, none⟩ = some (.int .i64 i) := blk_cell (h11.blk (b := wr.heap.size) (cs := #[.int .i64 i]) (T := 3) (List.Mem.tail _ (List.Mem.tail _ (List.Mem.head _)))) 0; obtain ⟨gl', cc', l0, lc0⟩ := h11.lived i I01.out.1 (by show i < (live.length : Int); have := LL.out; have := I01.out.2; omega); obtain ⟨cvx, box, _⟩ := h11.cleared; have l0' : W11.cell? ⟨w2.heap.size + 1, 0, none⟩ = some (.slice (some ⟨gl, 0, none⟩) live.length lc) := blk_cell box 0; have eq_ := l0.symm.trans l0'; injection eq_ with eq_; injection eq_ with eq_ _ _; injection eq_ with eq_; injection eq_ with eq_; rw [eq_] at lc0; clear eq_; replace lc0 : W11.cell? ⟨gl, i.toNat, none⟩ = some (.bool (rdOf false live i)) := lc0; rw [HLB.out] at lc0; clear l0 box k11 h11 h10; replace hW11 := hW11.symm))
      go_roundg gk
      case measure => omega
      case rel =>
       refine ⟨j + 1, i2, (by first | rfl | (simp; done) | (simp [*]; done)), ⟨by have := IJ.out; have := I2.out; omega⟩, ⟨by have := JK.out; omega⟩, ⟨?_⟩, ⟨?_⟩⟩
       ·rw [List.range_succ, List.foldl_append, CL.out]
        show CI _ _ _ (clear1 th live first cl j)
        rw [DN.out]
        exact HI11.out.drop.drop.drop
       ·rw [List.range_succ, List.foldl_append, CL.out]
        show (clear1 th live first cl j).length ≤ _
        have h_ := clear1_len th live first cl j JL.out HSL'.out
        have := LN'.out
        omega
     ·have HLB := Aside0.mk hlb
      clear hlb
      by_cases hw0 : wv = 0
      ·have b0 : (wv == 0) = true := beq_iff_eq.mpr hw0
       have DN := Aside0.mk (show clear1 th live first cl j = cl by
        unfold clear1
        refine if_neg (fun z => ?_)
        rw [HT'.out, HWV.out] at z
        exact z.2 hw0)
       clear hw0
       go_wp2_with (first | (go_at_call 37; (with_reducible refine (HIB.out.weak (Below.refl _ _) _ _ _ _ _ _ _).mono ?_); rintro e w10 ⟨rfl, h10⟩; rw [HWV.out]; clear a0 a1 a2 a3 a4; obtain ⟨W11, hW11⟩ : ∃ W11, W11 = w10.alloc (.cells #[.int .i64 wv] 3) := ⟨_, rfl⟩; have h11 := h10.box #[.int .i64 wv] 3; rw [← hW11] at h11; have HI11 := Aside0.mk h11; have k11 := h11.blk (b := wr.heap.size + 1) (cs := #[.int .i64 t.f0, .int .i64 t.f1, .int .i64 t.f2, .slice A3 t.f3.length c3, .int .i64 t.f4]) (T := 43) (List.Mem.tail _ (List.Mem.head _)); have a0 : W11.cell? ⟨wr.heap.size + 1, 0, none⟩ = some (.int .i64 t.f0) := blk_cell k11 0; have a1 : W11.cell? ⟨wr.heap.size + 1, 1, none⟩ = some (.int .i64 t.f1) := blk_cell k11 1; have a2 : W11.cell? ⟨wr.heap.size + 1, 2, none⟩ = some (.int .i64 t.f2) := blk_cell k11 2; have a3 : W11.cell? ⟨wr.heap.size + 1, 3, none⟩ = some (.slice A3 t.f3.length c3) := blk_cell k11 3; have a4 : W11.cell? ⟨wr.heap.size + 1, 4, none⟩ = some (.int .i64 t.f4) := blk_cell k11 4; have wb0 : W11.cell? ⟨w10.heap.size, 0, none⟩ = some (.int .i64 wv) := blk_cell (h11.blk (b := w10.heap.size) (cs := #[.int .i64 wv]) (T := 3) (List.Mem.head _)) 0; have ib0 : W11.cell? ⟨wr.heap.size, 0, none⟩ = some (.int .i64 i) := blk_cell (h11.blk (b := wr.heap.size) (cs := #[.int .i64 i]) (T := 3) (List.Mem.tail _ (List.Mem.tail _ (List.Mem.head _)))) 0; obtain ⟨gl', cc', l0, lc0⟩ := h11.lived i I01.out.1 (by show i < (live.length : Int); have := LL.out; have := I01.out.2; omega); obtain ⟨cvx, box, _⟩ := h11.cleared; have l0' : W11.cell? ⟨w2.heap.size + 1, 0, none⟩ = some (.slice (some ⟨gl, 0, none⟩) live.length lc) := blk_cell box 0; have eq_ := l0.symm.trans l0'; injection eq_ with eq_; injection eq_ with eq_ _ _; injection eq_ with eq_; injection eq_ with eq_; rw [eq_] at lc0; clear eq_; replace lc0 : W11.cell? ⟨gl, i.toNat, none⟩ = some (.bool (rdOf false live i)) := lc0; rw [HLB.out] at lc0; clear l0 box k11 h11 h10; replace hW11 := hW11.symm))
       go_roundg gk
       case measure => omega
       case rel =>
        refine ⟨j + 1, i2, (by first | rfl | (simp; done) | (simp [*]; done)), ⟨by have := IJ.out; have := I2.out; omega⟩, ⟨by have := JK.out; omega⟩, ⟨?_⟩, ⟨?_⟩⟩
        ·rw [List.range_succ, List.foldl_append, CL.out]
         show CI _ _ _ (clear1 th live first cl j)
         rw [DN.out]
         exact HI11.out.drop.drop.drop
        ·rw [List.range_succ, List.foldl_append, CL.out]
         show (clear1 th live first cl j).length ≤ _
         have h_ := clear1_len th live first cl j JL.out HSL'.out
         have := LN'.out
         omega
      ·have b0 : (wv == 0) = false := beq_eq_false_iff_ne.mpr hw0
       have DN := Aside0.mk (show clear1 th live first cl j = (slotsL t.f3.length t.f2).foldl (clearF th live first i wv t.f3) cl by
        unfold clear1
        rw [HT'.out, HWV.out, if_pos ⟨by rw [← IJ.out]; exact HLB.out, hw0⟩, IJ.out])
       have H0W := Aside0.mk hw0
       clear hw0
       go_wp2_with (first | (go_at_call 37; (with_reducible refine (HIB.out.weak (Below.refl _ _) _ _ _ _ _ _ _).mono ?_); rintro e w10 ⟨rfl, h10⟩; rw [HWV.out]; clear a0 a1 a2 a3 a4; obtain ⟨W11, hW11⟩ : ∃ W11, W11 = w10.alloc (.cells #[.int .i64 wv] 3) := ⟨_, rfl⟩; have h11 := h10.box #[.int .i64 wv] 3; rw [← hW11] at h11; have HI11 := Aside0.mk h11; have k11 := h11.blk (b := wr.heap.size + 1) (cs := #[.int .i64 t.f0, .int .i64 t.f1, .int .i64 t.f2, .slice A3 t.f3.length c3, .int .i64 t.f4]) (T := 43) (List.Mem.tail _ (List.Mem.head _)); have a0 : W11.cell? ⟨wr.heap.size + 1, 0, none⟩ = some (.int .i64 t.f0) := blk_cell k11 0; have a1 : W11.cell? ⟨wr.heap.size + 1, 1, none⟩ = some (.int .i64 t.f1) := blk_cell k11 1; have a2 : W11.cell? ⟨wr.heap.size + 1, 2, none⟩ = some (.int .i64 t.f2) := blk_cell k11 2; have a3 : W11.cell? ⟨wr.heap.size + 1, 3, none⟩ = some (.slice A3 t.f3.length c3) := blk_cell k11 3; have a4 : W11.cell? ⟨wr.heap.size + 1, 4, none⟩ = some (.int .i64 t.f4) := blk_cell k11 4; have wb0 : W11.cell? ⟨w10.heap.size, 0, none⟩ = some (.int .i64 wv) := blk_cell (h11.blk (b := w10.heap.size) (cs := #[.int .i64 wv]) (T := 3) (List.Mem.head _)) 0; have ib0 : W11.cell? ⟨wr.heap.size, 0, none⟩ = some (.int .i64 i) := blk_cell (h11.blk (b := wr.heap.size) (cs := #[.int .i64 i]) (T := 3) (List.Mem.tail _ (List.Mem.tail _ (List.Mem.head _)))) 0; obtain ⟨gl', cc', l0, lc0⟩ := h11.lived i I01.out.1 (by show i < (live.length : Int); have := LL.out; have := I01.out.2; omega); obtain ⟨cvx, box, _⟩ := h11.cleared; have l0' : W11.cell? ⟨w2.heap.size + 1, 0, none⟩ = some (.slice (some ⟨gl, 0, none⟩) live.length lc) := blk_cell box 0; have eq_ := l0.symm.trans l0'; injection eq_ with eq_; injection eq_ with eq_ _ _; injection eq_ with eq_; injection eq_ with eq_; rw [eq_] at lc0; clear eq_; replace lc0 : W11.cell? ⟨gl, i.toNat, none⟩ = some (.bool (rdOf false live i)) := lc0; rw [HLB.out] at lc0; clear l0 box k11 h11 h10; replace hW11 := hW11.symm) | (go_at_call 38; (refine (slots_calls39 (fun w s => CI (⟨W1, some ad, c0, th, live, first, pl, w2.heap.size + 1, .slice (some ⟨gl, 0, none⟩) live.length lc, .slice Ap pl.length cp, .slice An first.length cn, g, .slice A1 rt.length c1, xv, .slice none 0 0⟩ : CP) w ((w10.heap.size, #[.int .i64 wv], 3) :: (wr.heap.size + 1, #[.int .i64 t.f0, .int .i64 t.f1, .int .i64 t.f2, .slice A3 t.f3.length c3, .int .i64 t.f4], 43) :: (wr.heap.size, #[.int .i64 i], 3) :: [(w8.heap.size, #[.pointer (some ⟨g, 0, none⟩)], 53), (w2.heap.size, #[.slice An first.length cn], 30)]) s) (clearF th live first i wv t.f3) _ cl t.f0 t.f1 t.f2 t.f4 A3 t.f3.length c3 (by have := T3.out; omega) (.pointer (some ⟨wr.heap.size + 1, 0, none⟩)) (.pointer (some ⟨w10.heap.size, 0, none⟩)) (.pointer (some ⟨w8.heap.size, 0, none⟩)) (.pointer (some ⟨w2.heap.size + 1, 0, none⟩)) (.pointer (some ⟨w2.heap.size, 0, none⟩)) (.pointer (some ⟨wr.heap.size, 0, none⟩)) (fun pre w wx key value hlen hI hb _ hk hv hv0 => hI.step hb H0.out HM.out LL.out FL.out ⟨List.Mem.tail _ (List.Mem.head _), List.Mem.head _, List.Mem.tail _ (List.Mem.tail _ (List.Mem.tail _ (List.Mem.head _))), List.Mem.tail _ (List.Mem.tail _ (List.Mem.tail _ (List.Mem.tail _ (List.Mem.head _)))), List.Mem.tail _ (List.Mem.tail _ (List.Mem.head _))⟩ HC3.out I01.out.1 I01.out.2 (by have h_ := clearFs_len th live first i wv t.f3 pre cl; have := LN'.out; have := JM.out; have := T3.out; omega) key value hv0 hv hk) (fun s w wx hi hb => hi.below hb) HI11.out).mono ?_); rintro e w12 ⟨rfl, h12⟩; have H12 := Aside0.mk h12; clear h12))
       go_roundg gk
       case measure => omega
       case rel =>
        refine ⟨j + 1, i2, (by first | rfl | (simp; done) | (simp [*]; done)), ⟨by have := IJ.out; have := I2.out; omega⟩, ⟨by have := JK.out; omega⟩, ⟨?_⟩, ⟨?_⟩⟩
        ·rw [List.range_succ, List.foldl_append, CL.out]
         show CI _ _ _ (clear1 th live first cl j)
         rw [DN.out]
         exact H12.out.drop.drop.drop
        ·rw [List.range_succ, List.foldl_append, CL.out]
         show (clear1 th live first cl j).length ≤ _
         have h_ := clear1_len th live first cl j JL.out HSL'.out
         have := LN'.out
         omega
  ·have i0 : 0 ≤ i := by omega
   have i1 : i < (th.length : Int) := by omega
   obtain ⟨i2, hi2⟩ : ∃ x : Int, i + 1 = x := ⟨_, rfl⟩
   have ew2 : IntKind.i64.wrap (i + 1) = i2 := (i64_w _).trans ((w64i_ (by omega) (by omega)).trans hi2)
   have ct1 : decide (i < (th.length : Int)) = true := decide_eq_true i1
   obtain ⟨ad, A3, c3, hA, x0, x1, x2, x3, x4, hl3, hC⟩ := at_T43 (Kd.C_below H0.out HB.out) i i0 i1
   subst hA
   obtain ⟨t, ht⟩ : ∃ t, rd_T43 th i = t := ⟨_, rfl⟩
   rw [ht] at x0 x1 x2 x3 x4
   have HT := Aside0.mk ht
   have i3 : i < (first.length : Int) := by have := FL.out; omega
   obtain ⟨gf, cf, e1, _⟩ := Kd.R_form RF1.out (by omega)
   injection e1 with e1 _ e3
   subst e1
   subst e3
   have fv := (Kd.R_celln false RF1.out i i0 i3).1
   obtain ⟨WB, hWB⟩ : ∃ WB, WB = wr.alloc (.cells #[.int .i64 t.f0, .int .i64 t.f1, .int .i64 t.f2, .slice A3 t.f3.length c3, .int .i64 t.f4] 43) := ⟨_, rfl⟩
   have HB2 := Aside0.mk (show Below W1.heap.size W1 WB by rw [hWB]; exact below_alloc HB.out _)
   have BO2 := Aside0.mk (show WB.heap[w2.heap.size + 1]? = some (.cells #[.slice none 0 0, pv, .slice none 0 0] 37 (0, 0)) by rw [hWB]; exact blk_alloc BO.out _)
   have RP2 := Aside0.mk (show Kd.R (Kd.int .i64) 3 WB W1.heap.size (fun _ => True) pv (pend0 th first j) by rw [hWB]; exact Kd.R_alloc RP.out _)
   have RF2 := Aside0.mk (show Kd.R Kd.bool 4 WB W1.heap.size (fun _ => True) (.slice (some ⟨gf, 0, none⟩) first.length cn) first by rw [hWB]; exact Kd.R_alloc RF1.out _)
   have BF2 := Aside0.mk (show WB.heap[w2.heap.size]? = some (.cells #[.slice (some ⟨gf, 0, none⟩) first.length cn] 30 (0, 0)) by rw [hWB]; exact blk_alloc BF.out _)
   have a4 : WB.cell? ⟨wr.heap.size, 4, none⟩ = some (.int .i64 t.f4) := by rw [hWB]; exact blk_cell (alloc_at wr (.cells #[.int .i64 t.f0, .int .i64 t.f1, .int .i64 t.f2, .slice A3 t.f3.length c3, .int .i64 t.f4] 43)) 4
   have f3 : WB.cell? ⟨w2.heap.size, 0, none⟩ = some (.slice (some ⟨gf, 0, none⟩) first.length cn) := blk_cell BF2.out 0
   have z1 : WB.cell? ⟨w2.heap.size + 1, 1, none⟩ = some pv := blk_cell BO2.out 1
   replace fv : WB.cell? ⟨gf, i.toNat, none⟩ = some (.bool (rdOf false first i)) := by rw [hWB]; exact ((below_alloc (Below.refl _ _) (.cells #[.int .i64 t.f0, .int .i64 t.f1, .int .i64 t.f2, .slice A3 t.f3.length c3, .int .i64 t.f4] 43)).cell (cell_lt fv)).trans fv
   replace hWB := hWB.symm
   have I2 := Aside0.mk hi2
   have PLN := Aside0.mk (show (pend0 th first j).length ≤ 1000000 by have := pend0_len th first j; omega)
   have HPS := Aside0.mk (show pendP th first j = (decide (0 < t.f4) && !rdOf false first i) by unfold pendP; rw [← ij, ht])
   replace i0 := eq_true i0
   replace i1 := eq_true i1
   replace i3 := eq_true i3
   clear ij jk hmm hi2 hC ht hl3
   by_cases hp : 0 < t.f4
   ·have ep : decide (0 < t.f4) = true := decide_eq_true hp
    clear hp
    rcases hf : rdOf false first i with _ | _
    ·rw [hf] at fv
     have PS := Aside0.mk (show pendP th first j = true by rw [HPS.out, ep, hf]; rfl)
     clear hf
     go_wp2_with (first | ((with_reducible refine gate_builtin (b := .append) (xs := #[.tmp 32, .tmp 35]) rfl ?_); at_builtin; refine Kd.R_append (Kd.int .i64) (w0 := W1) W1.heap.size rfl (.tmp 32) (.tmp 35) 26 3 (.int .i64 0) 8 rfl Try.underlying26 info3 rfl (by decide) (by omega) pv (pend0 th first j) i2 [.int .i64 i2] (fun _ => True) (fun _ => False) rfl rfl ?aP (fun _ hk => hk.elim) ?aF ?aO ?aB ?aS ?aL ?_; (case aP => exact rfl); (case aB => exact HB2.out); (case aF => exact (fun _ _ => trivial)); (case aO => exact RP2.out); (case aS => exact HB2.out.size); (case aL => have := PLN.out; omega); intro v4 w4 ho hb4 hg4 hat4; obtain ⟨A4, c4, rfl⟩ := Kd.R_slice ho; have B4 := Aside0.mk (blk_grown BO2.out hg4 (Kd.R_ne RP2.out BO2.out (by decide))); have z4 : w4.cell? ⟨(w2.heap.size + 1), 1, none⟩ = some pv := blk_cell B4.out 1; have f4 := blk_frozen B4.out 1; have HO4 := Aside0.mk ho; have HB4' := Aside0.mk hb4; have HG4 := Aside0.mk hg4; clear ho hb4 hg4 hat4))
     go_roundg gk
     case measure => omega
     case rel =>
      have ho6 : Kd.R (Kd.int .i64) 3 w4 W1.heap.size (fun _ => True) (.slice A4 ((pend0 th first j).length + 1) c4) (pend0 th first (j + 1)) := by
       have ho := HO4.out
       rw [List.length_append, List.length_singleton] at ho
       rw [pend0_succ, PS.out, if_pos rfl, ← IJ.out, I2.out]
       exact ho
      refine ⟨j + 1, _, _, (by first | rfl | (simp; done) | (simp [*]; done)), ⟨by have := IJ.out; have := I2.out; omega⟩, ⟨by have := JK.out; omega⟩, ⟨below_set HB4'.out OBG.out⟩, ⟨?_, Kd.R_set ho6 B4.out (by decide) _ _⟩, ⟨Kd.R_set (Kd.R_over RF2.out RP2.out (by decide) HG4.out) B4.out (by decide) _ _⟩, ⟨blk_far (blk_grown BF2.out HG4.out (Kd.R_ne RP2.out BF2.out (by decide))) (by intro z; exact absurd z (by show ¬ (w2.heap.size = w2.heap.size + 1); omega)) _⟩⟩
      simp [World.setCell, Array.getElem?_modify, B4.out]
    ·rw [hf] at fv
     have PS := Aside0.mk (show pendP th first j = false by rw [HPS.out, ep, hf]; rfl)
     clear hf
     go_wp2
     go_roundg gk
     case measure => omega
     case rel => exact ⟨j + 1, _, _, (by first | rfl | (simp; done) | (simp [*]; done)), ⟨by have := IJ.out; have := I2.out; omega⟩, ⟨by have := JK.out; omega⟩, HB2, ⟨BO2.out, by rw [pend0_succ, PS.out]; simpa using RP2.out⟩, RF2, BF2⟩
   ·have ep : decide (0 < t.f4) = false := decide_eq_false hp
    have PS := Aside0.mk (show pendP th first j = false by rw [HPS.out, ep]; rfl)
    clear hp
    go_wp2
    go_roundg gk
    case measure => omega
    case rel => exact ⟨j + 1, _, _, (by first | rfl | (simp; done) | (simp [*]; done)), ⟨by have := IJ.out; have := I2.out; omega⟩, ⟨by have := JK.out; omega⟩, HB2, ⟨BO2.out, by rw [pend0_succ, PS.out]; simpa using RP2.out⟩, RF2, BF2⟩
end Go.Proofs.Ytollnnbcfhnlfaa.Rg

/- reach: Strong, Right and Collect as functions, and their contracts in the printer's form. -/
set_option linter.unusedVariables false
set_option linter.unusedSimpArgs false
namespace Go.Proofs.Ytollnnbcfhnlfaa.Rg
open Go.RowKit Go.Proofs.Ytollnnbcfhnlfaa.QR Go.Proofs.YtollnnbcfhnlfaaW.PrintWords Go.Proofs.YtollnnbcfhnlfaaW.PrintLast Go.Proofs.YtollnnbcfhnlfaaW.PrintMore
def drainC (th : List S43) : Nat → St → Option St
 | 0, _ => none
 | k + 1, s => if s.2 = [] then some s else drainC th k (popF th s)
def sprC (th : List S43) : Nat → St → Option St
 | 0, _ => none
 | k + 1, s => if s.2 = [] then some s else (drainC th (2 * th.length + 3) s).bind fun s1 => sprC th k (sweepF th s1)
theorem drainC_of {th : List S43} {s s' : St} (h : Drain th s s') : ∀ (F : Fine th s) (k : Nat), s.2.length + s.1.count false < k → drainC th k s = some s' := by
 induction h with
 | nil hz =>
  intro F k hk
  cases k with
  | zero => omega
  | succ k => simp [drainC, hz]
 | step hz hd ih =>
  rename_i s s'
  intro F k hk
  cases k with
  | zero => omega
  | succ k =>
   have := less_pop F hz
   rw [drainC, if_neg hz]
   exact ih F.pop k (by omega)
theorem sprC_of {th : List S43} {s s' : St} (h : Spr th s s') : ∀ (F : Fine th s) (k : Nat), nu s < k → sprC th k s = some s' := by
 induction h with
 | nil hz =>
  intro F k hk
  cases k with
  | zero => omega
  | succ k => simp [sprC, hz]
 | step hz hd hs ih =>
  rename_i s s1 s'
  intro F k hk
  cases k with
  | zero => omega
  | succ k =>
   have F1 := hd.fine F
   have h1 := drainC_of hd F (2 * th.length + 3) (by have := F.sum; omega)
   have hdone : s1.2 = [] ∧ s1.1.count false ≤ s.1.count false := by
    clear ih hs h1 hk F1
    induction hd with
    | nil hz' => exact absurd hz' hz
    | step hz' hd' ih' =>
     rename_i a b
     have lp := less_pop F hz'
     by_cases he : (popF th a).2 = []
     ·cases hd' with
      | nil _ => exact ⟨he, lp.2⟩
      | step hne _ => exact absurd he hne
     ·have := ih' he F.pop
      exact ⟨this.1, by omega⟩
   have := nu_sweep hz hdone.1 hdone.2 F1
   rw [sprC, if_neg hz, h1]
   show sprC th k (sweepF th s1) = some s'
   exact ih (fine_sweeps F1 _).1 k (by omega)
theorem drainC_to {th : List S43} : ∀ (k : Nat) (s s' : St), drainC th k s = some s' → Drain th s s'
 | 0, s, s', h => by cases h
 | k + 1, s, s', h => by
  rw [drainC] at h
  by_cases hz : s.2 = []
  ·rw [if_pos hz] at h
   obtain rfl := Option.some.inj h
   exact .nil hz
  ·rw [if_neg hz] at h
   exact .step hz (drainC_to k _ _ h)
theorem sprC_to {th : List S43} : ∀ (k : Nat) (s s' : St), sprC th k s = some s' → Spr th s s'
 | 0, s, s', h => by cases h
 | k + 1, s, s', h => by
  rw [sprC] at h
  by_cases hz : s.2 = []
  ·rw [if_pos hz] at h
   obtain rfl := Option.some.inj h
   exact .nil hz
  ·rw [if_neg hz] at h
   obtain ⟨s1, h1, h2⟩ := Option.bind_eq_some_iff.1 h
   exact .step hz (drainC_to _ _ _ h1) (sprC_to k _ _ h2)
def strongC (th : List S43) (rt : List S40) (mo : List Int) : Option (List Bool) := (sprC th (2 * th.length + 3) (startF th rt mo)).map (·.1)
theorem strongC_of {th : List S43} {rt : List S40} {mo : List Int} {r : List Bool} (h : StrongR th rt mo r) : strongC th rt mo = some r := by
 obtain ⟨s', h1, rfl⟩ := h
 have F := fine_start th rt mo
 unfold strongC
 rw [sprC_of h1 F _ (by have := F.sum; unfold nu; split <;> omega)]
 rfl
theorem strongC_to {th : List S43} {rt : List S40} {mo : List Int} {r : List Bool} (h : strongC th rt mo = some r) : StrongR th rt mo r := by
 unfold strongC at h
 obtain ⟨s', h1, rfl⟩ := Option.map_eq_some_iff.1 h
 exact ⟨s', sprC_to _ _ _ h1, rfl⟩
/-- how large a graph may be -/
def bnd (th : List S43) (rt : List S40) : Bool := decide (th.length ≤ 1000) && th.all (fun t => decide (t.f3.length ≤ 1000)) && decide (rt.length ≤ 1000000)
theorem bnd_of {th : List S43} {rt : List S40} (h : bnd th rt = true) : th.length ≤ 1000 ∧ (∀ t ∈ th, t.f3.length ≤ 1000) ∧ rt.length ≤ 1000000 := by
 unfold bnd at h
 simp only [Bool.and_eq_true, decide_eq_true_eq, List.all_eq_true] at h
 exact ⟨h.1.1, h.1.2, h.2⟩
def okB (th : List S43) (seen : List Int) (t : S43) : Bool := !(decide (t.f0 < 4) || decide (9 < t.f0) || decide (t.f1 < 0) || decide (3 < t.f1) || decide (t.f2 < 0) || decide (t.f4 < 0) || (decide (t.f0 ≠ 5) && (decide (t.f1 ≠ 0) || decide (t.f4 ≠ 0)))) && !(decide (0 < t.f2) && decide ((t.f3.length : Int) ≤ t.f2)) && !(decide (0 < t.f4) && decide (t.f4 ∈ seen)) && fineL th t.f3
theorem okB_iff (th : List S43) (seen : List Int) (t : S43) : okB th seen t = true ↔ okP th seen t := by
 unfold okB okP
 simp only [Bool.and_eq_true, Bool.not_eq_true', Bool.or_eq_false_iff, Bool.and_eq_false_iff, decide_eq_false_iff_not, not_or]
 constructor
 ·rintro ⟨⟨⟨a, b⟩, c⟩, d⟩
  exact ⟨by omega, by omega, fun z => c.elim (fun q => q z.1) (fun q => q z.2), d⟩
 ·rintro ⟨a, b, c, d⟩
  exact ⟨⟨⟨by omega, by omega⟩, (by
   by_cases hq : 0 < t.f4
   ·exact .inr (fun m => c ⟨hq, m⟩)
   ·exact .inl hq)⟩, d⟩
def rightB (th : List S43) : List S43 → List Int → Bool
 | [], _ => true
 | t :: ts, seen => okB th seen t && rightB th ts (seen ++ [t.f4])
theorem rightB_iff (th : List S43) : ∀ (ts : List S43) (seen : List Int), rightB th ts seen = true ↔ okAll th ts seen
 | [], _ => by simp [rightB, okAll]
 | t :: ts, seen => by
  rw [rightB, Bool.and_eq_true, okB_iff, rightB_iff th ts]
  rfl
def rightC (th : List S43) (rt : List S40) : Bool := rightB th th [] && fineL th rt
theorem rightC_iff (th : List S43) (rt : List S40) : rightC th rt = true ↔ RightP th rt := by
 unfold rightC RightP
 rw [Bool.and_eq_true, rightB_iff]
def wfF (th : List S43) : Bool := th.all (fun t => (Lit.int .i64 t.f4).wf)
theorem wfF_of {th : List S43} (h : wfF th = true) : ∀ t ∈ th, (Lit.int .i64 t.f4).wf = true := List.all_eq_true.1 h
end Go.Proofs.Ytollnnbcfhnlfaa.Rg
