/- ages.Audit: what it tells of a view at the pause of generational mode. -/
import Derived.Test.YtpdhmfbpmbbmgaaAc
namespace Go.Proofs.Ytpdhmfbpmbbmgaa.Mp
open Go.RowKit Go.Shelf Go.Proofs.YtpdhmfbpmbbmgaaW.PrintWords Go.Proofs.YtpdhmfbpmbbmgaaW.PrintLast
attribute [local go_sem] Oper.semAt_some
set_option maxHeartbeats 8000000 in
set_option maxRecDepth 100000 in
theorem audit_gen (w : World) (white : Int) (a3 : Option Addr) (c3 : Nat) (s4 s5 s6 : Value) (S : List (Ob × List Vl)) (hx : Obs w.heap.size w (.slice a3 (S.map (·.1)).length c3) (S.map (·.1))) (hreach : (S.map (·.1)).length * 64 ≤ 140737488351232)
    (hsl : ∀ p ∈ S, SlAt w.heap.size w p.1 p.2) (hS1 : S.length ≤ 100000) (hS2 : ∀ p ∈ S, p.2.length ≤ 100000)
    (con : Int → Bool) (hcon : ∀ W, Below w.heap.size w W → ∀ h, (Lit.int .i64 h).wf = true → Calls Try.prog 35 #[s5, .int .i64 h] W fun e w' => e = .returned (.bool (con h)) ∧ Below W.heap.size W w') :
    Calls Try.prog 17 #[viewV 1 0 white (.slice a3 (S.map (·.1)).length c3) s4 s5 s6] w fun e w' => ∃ v, e = .returned v ∧ w'.ownsRow w.heap.size 46 2 v (auditL (fun y => agedV white (con y.h) y.col y.age) (fun y z => leadsV y.age z.age) (S.map (·.1)) S).length (flatW (auditL (fun y => agedV white (con y.h) y.col y.age) (fun y z => leadsV y.age z.age) (S.map (·.1)) S)) ∧ Below w.heap.size w w' := by
  obtain ⟨xs, hxs⟩ : ∃ xs, S.map (·.1) = xs := ⟨_, rfl⟩
  rw [hxs] at hx hreach ⊢
  obtain ⟨self, hself⟩ : ∃ self : Ob → Bool, (fun y => agedV white (con y.h) y.col y.age) = self := ⟨_, rfl⟩
  obtain ⟨tof, hto⟩ : ∃ tof : Ob → Ob → Bool, (fun y z => leadsV y.age z.age) = tof := ⟨_, rfl⟩
  rw [hself, hto]
  obtain ⟨i0, hi0, hz0, hz1, hz2⟩ := info_parts info46
  have hmm := @run_makeMap Try.prog
  unfold viewV
  refine (callsIn_wide (n := 5)).1 (callsIn_of_wp_marks Try.func17 rfl trivial (wpIn_wide.2 ?_) rfl)
  simp only [Try.ntmps17, List.size_toArray, List.length_cons, List.length_nil, Nat.reduceAdd, Nat.reduceSub, Array.replicate_succ, Array.replicate_zero, List.push_toArray, List.append_toArray, List.nil_append, List.cons_append]
  go_wp2_with (go_at_call 21; refine (callsIn_wide (n := 3).1 (back_in Fence.wide 3 trivial rfl _ _ _ _)).mono ?_; rintro e w' ⟨rfl, rfl⟩)
  obtain ⟨cv, hcv⟩ : ∃ cv, #[Value.int IntKind.i64 1, Value.int IntKind.i64 0, Value.int IntKind.i64 white, Value.slice a3 xs.length c3, s4, s5, s6] = cv := ⟨_, rfl⟩
  have hR0 : Rd w cv [] ((((w.alloc (.cells cv 30)).alloc (.map #[] 0)).alloc (.cells #[.map (some (w.heap.size + 1))] 47)).alloc (.cells #[.slice a3 xs.length c3] 27)) := by
    refine Rd.mk ?_ ?_ ?_ ?_ ?_
    · exact (Below.heap_alloc _ _ _ (by simp; omega)).trans ((Below.heap_alloc _ _ _ (by simp; omega)).trans ((Below.heap_alloc _ _ _ (by simp)).trans (alloc_at w _)))
    · have := alloc_at ((w.alloc (.cells cv 30)).alloc (.map #[] 0)) (.cells #[.map (some (w.heap.size + 1))] 47)
      simp only [World.size_alloc] at this
      exact (Below.heap_alloc _ _ _ (by simp)).trans this
    · have := MapIs.made (P := Try.prog) (w.alloc (.cells cv 30)) 51
      rw [World.size_alloc] at this
      exact (this.kept (Below.heap_alloc _ _ _ (by simp))).kept (Below.heap_alloc _ _ _ (by simp))
    · exact ((((Below.refl _ w).alloc (Nat.le_refl _) _).alloc (by simp) _).alloc (by simp; omega) _).alloc (by simp; omega) _
    · simp only [World.size_alloc]; omega
  have hC0 : ((((w.alloc (.cells cv 30)).alloc (.map #[] 0)).alloc (.cells #[.map (some (w.heap.size + 1))] 47)).alloc (.cells #[.slice a3 xs.length c3] 27)).cell? ⟨w.heap.size + 1 + 1 + 1, 0, none⟩ = some (.slice a3 xs.length c3) := by
    have := alloc_at (((w.alloc (.cells cv 30)).alloc (.map #[] 0)).alloc (.cells #[.map (some (w.heap.size + 1))] 47)) (.cells #[.slice a3 xs.length c3] 27)
    simp only [World.size_alloc] at this
    rw [cell_at this 0]; rfl
  have hsz : ((((w.alloc (.cells cv 30)).alloc (.map #[] 0)).alloc (.cells #[.map (some (w.heap.size + 1))] 47)).alloc (.cells #[.slice a3 xs.length c3] 27)).heap.size = w.heap.size + 4 := by simp only [World.size_alloc]
  rw [hcv]
  obtain ⟨W0, hW0⟩ : ∃ W0, ((((w.alloc (.cells cv 30)).alloc (.map #[] 0)).alloc (.cells #[.map (some (w.heap.size + 1))] 47)).alloc (.cells #[.slice a3 xs.length c3] 27)) = W0 := ⟨_, rfl⟩
  rw [hW0] at hR0 hC0 hsz ⊢
  clear hW0
  refine (wpIn_wide (n := 5)).1 ?_
  refine wpIn_rangeFunc_ownH rfl (by omega) (gf := 24) (lb := #[.pointer (some ⟨w.heap.size + 1 + 1 + 1, 0, none⟩)]) rfl trivial (enters_of Try.func24 (by kernel_rfl) rfl)
    (bw_stops Fence.wide 4 trivial rfl (by omega) (w.heap.size + 1 + 1 + 1) w.heap.size _ xs hreach W0 (by omega) (by omega) hC0 (hx.below hR0.below))
    (fun h k => h.trans k) (KpB.put (by omega) (by omega)) (Below.refl _ _) (fun _ => rfl)
    (Rd w cv) (fun _ _ _ => False)
    (fun s A B row hs hg hr => ⟨grown_at hg hs.view (fun e => by have := (hr _ e).1; omega), grown_at hg hs.cell (fun e => by have := (hr _ e).1; omega), hs.map.grown hg (fun e => by have := (hr _ e).1; omega), hs.below.grown hg hs.below.size (fun k e => by have := (hr k e).1; omega), Nat.le_trans hs.size hg.size⟩)
    (fun _ _ _ _ _ hs _ _ => hs) hR0
    (fun x a' W => ∃ Bx, W0.heap.size ≤ Bx ∧ W.heap[Bx]? = some (.cells x.2.cells.toArray 36 (0, 0)) ∧ a' = { tmps := #[Value.agg cv, Value.pointer (some ⟨w.heap.size, 0, none⟩), Value.slice none 0 0, Value.pointer (some ⟨w.heap.size + 1 + 1, 0, none⟩), undef, Value.pointer (some ⟨Bx, 0, none⟩), undef, undef, undef, undef, undef, undef, undef, undef, Value.map (some (w.heap.size + 1)), Value.pointer (some ⟨w.heap.size, 3, none⟩), Value.slice a3 xs.length c3, Value.func (.func 24) #[] #[.pointer (some ⟨w.heap.size + 1 + 1 + 1, 0, none⟩)], Value.int .i64 x.1, x.2.val, undef, undef, undef, undef, undef, undef, undef, undef, undef, undef, undef, undef, undef, undef, undef, undef, undef, undef, undef, undef, undef, undef, undef, undef, undef, undef, undef, undef, undef, undef, undef, undef, undef, undef, undef, undef, undef, undef, undef, undef, undef, undef, undef, undef, undef, undef, undef, undef, undef, undef, undef, undef, undef, undef, undef, undef, undef, undef, undef, undef, undef, undef, undef, undef, undef, undef, undef, undef, undef, undef, undef, undef, undef, undef, undef, undef, undef, undef, undef, undef, undef, undef, undef, undef, undef, undef, undef, undef, undef, undef, undef, undef], defers := [] })
    (fun x a' _ X Y row hs hg hr => by
      obtain ⟨Bx, h1, h2, h3⟩ := hs
      refine ⟨Bx, h1, grown_at hg h2 (fun e => ?_), h3⟩
      obtain ⟨o, ho, hoc⟩ := (hr _ e).2
      rw [h2] at ho; cases ho; cases hoc)
    ?assign ?body ?done ?stop
  case assign =>
    rintro l pre x W K hi hK
    unfold Ob.val Ob.cells
    gi_wp2
    have hw := hi.size
    refine hK _ _ ((KeepsOthers.alloc _ _).from _) ⟨(Below.refl _ W).alloc hi.below.size _, cell_same (Below.heap_alloc W _ _ (by omega))⟩ (hi.alloc _) ⟨W.heap.size, by omega, alloc_at W _, ?_⟩
    rfl
  case body =>
    rintro l pre x a' W hl hr hi ⟨Bx, hBx, hbx, rfl⟩ hlt
    have c0 := cell_at hbx 0
    have c1 := cell_at hbx 1
    have c2 := cell_at hbx 2
    have c3 := cell_at hbx 3
    have c4 := cell_at hbx 4
    have c5 := cell_at hbx 5
    have c6 := cell_at hbx 6
    have c7 := cell_at hbx 7
    have cm := cell_at hi.cell 0
    obtain ⟨kl, hkl⟩ := key51 x.2.h x.2.kind x.2.wh x.2.wk
    simp only [Ob.cells, List.getElem?_toArray, List.getElem?_cons_zero, List.getElem?_cons_succ] at c0 c1 c2 c3 c4 c5 c6 c7 cm
    have hmp := hi.map
    unfold pairV at hkl
    gi_wp2_with (gi_at_mapUpdate; refine wpIn_update rfl _ _ _ _ rfl K51 Try.underlying47 rfl hmp (key := .agg #[.int .i64 x.2.h, .int .i64 x.2.kind]) (val := x.2.val) rfl rfl hkl ?_; intro w1 hmap1 hu1)
    have hsz2 := hi.size
    refine ⟨⟨Nat.le_of_eq hu1.size.symm, fun k o hB hk _ => (hu1.block k (by omega)).trans hk⟩, ⟨hu1.below (Below.refl _ W) (by omega), cell_same (hu1.block _ (by omega))⟩, ?_⟩
    exact ⟨(hu1.block _ (by omega)).trans hi.view, (hu1.block _ (by omega)).trans hi.cell, by rw [mapOf_snoc]; exact hmap1, hu1.below hi.below (by omega), by rw [hu1.size]; exact hi.size⟩
  case done =>
    rintro D ys W hD hS hi hK
    have cv0 := cell_at hi.view 0
    have cv1 := cell_at hi.view 1
    have cv2 := cell_at hi.view 2
    have cv3 := cell_at hi.view 3
    have cv4 := cell_at hi.view 4
    have cv5 := cell_at hi.view 5
    have cv6 := cell_at hi.view 6
    subst hcv
    simp only [List.getElem?_toArray, List.getElem?_cons_zero, List.getElem?_cons_succ] at cv0 cv1 cv2 cv3 cv4 cv5 cv6
    go_wp2_with (go_at_call 22; refine (rules_gen _ _ _ _ _ _).mono ?_; rintro e w2 ⟨rfl, hb2⟩; have hB1 : Below W.heap.size W (w2.alloc (.cells #[.func (.func 32) #[] #[], .func (.func 33) #[] #[]] 55)) := hb2.alloc hb2.size _; have cw3 := (hB1.cell (p := ⟨w.heap.size, 3, none⟩) (by have := hi.size; show w.heap.size < _; omega)).trans cv3)
    obtain ⟨W1, hW1⟩ : ∃ W1, w2.alloc (.cells #[.func (.func 32) #[] #[], .func (.func 33) #[] #[]] 55) = W1 := ⟨_, rfl⟩
    have hR1 := alloc_at w2 (.cells #[.func (.func 32) #[] #[], .func (.func 33) #[] #[]] 55)
    have hmap := hi.map.kept ((hB1.block (w.heap.size + 1) (by have := hi.size; omega)))
    rw [hS, mapOf_bwd] at hmap
    have hB2 : Below w.heap.size w _ := hi.below.trans (hB1.mono hi.below.size)
    have hE : ∀ X, Below (w2.alloc (.cells #[.func (.func 32) #[] #[], .func (.func 33) #[] #[]] 55)).heap.size (w2.alloc (.cells #[.func (.func 32) #[] #[], .func (.func 33) #[] #[]] 55)) X → (X.cell? ⟨w.heap.size, 0, none⟩ = some (.int .i64 1) ∧ X.cell? ⟨w.heap.size, 1, none⟩ = some (.int .i64 0) ∧ X.cell? ⟨w.heap.size, 2, none⟩ = some (.int .i64 white) ∧ X.cell? ⟨w.heap.size, 3, none⟩ = some (.slice a3 xs.length c3) ∧ X.cell? ⟨w.heap.size, 4, none⟩ = some s4 ∧ X.cell? ⟨w.heap.size, 5, none⟩ = some s5 ∧ X.cell? ⟨w.heap.size, 6, none⟩ = some s6) ∧ (X.cell? ⟨w2.heap.size, 0, none⟩ = some (.func (.func 32) #[] #[]) ∧ X.cell? ⟨w2.heap.size, 1, none⟩ = some (.func (.func 33) #[] #[])) ∧ X.cell? ⟨w.heap.size + 1 + 1, 0, none⟩ = some (.map (some (w.heap.size + 1))) ∧ MapIs X Try.prog 51 (w.heap.size + 1) (mapR xs) := by
      intro X hX
      have hc := fun (b j : Nat) (hb : b < W.heap.size) => (hX.cell (p := ⟨b, j, none⟩) (Nat.lt_of_lt_of_le hb hB1.size)).trans (hB1.cell (p := ⟨b, j, none⟩) hb)
      have hsz3 := hi.size
      refine ⟨⟨(hc _ 0 (by omega)).trans cv0, (hc _ 1 (by omega)).trans cv1, (hc _ 2 (by omega)).trans cv2, (hc _ 3 (by omega)).trans cv3, (hc _ 4 (by omega)).trans cv4, (hc _ 5 (by omega)).trans cv5, (hc _ 6 (by omega)).trans cv6⟩, ⟨(hX.cell (p := ⟨w2.heap.size, 0, none⟩) (by simp)).trans (cell_at hR1 0), (hX.cell (p := ⟨w2.heap.size, 1, none⟩) (by simp)).trans (cell_at hR1 1)⟩, (hc _ 0 (by omega)).trans (cell_at hi.cell 0), hmap.kept (hX.block _ (by have := hB1.size; omega))⟩
    have hD1 := hX_lt hK
    have hK1 : (w2.alloc (.cells #[.func (.func 32) #[] #[], .func (.func 33) #[] #[]] 55)).heap[D]? = some (.deferred (some [])) := (hB1.block D hD1).trans hK
    have hWW : w.heap.size ≤ (w2.alloc (.cells #[.func (.func 32) #[] #[], .func (.func 33) #[] #[]] 55)).heap.size := hB2.size
    have hxs1 : S.length = xs.length := by rw [← hxs]; simp
    generalize hGR : w2.heap.size = r2 at *
    rw [hW1] at hE hB1 hR1 hmap hB2 hK1 cw3 hWW ⊢
    clear cv0 cv1 cv2 cv3 cv4 cv5 cv6 hb2 hR0 hC0 hi hK hW1 hmm cw3 hR1 hB1 hmap
    go_loopw [7, 33] (fun v i wr => ∃ k : Nat, k ≤ S.length ∧ i = .int .i64 k ∧ wr.ownsRow W1.heap.size 46 2 v (auditL self tof xs (S.take k)).length (flatW (auditL self tof xs (S.take k))) ∧ Below W1.heap.size W1 wr) (fun _ i _ => S.length - (intOf i).toNat)
    case atStart => exact ⟨0, Nat.zero_le _, rfl, World.ownsRow_nil _ _ _ _, Below.refl _ _⟩
    case round =>
      obtain ⟨k, hk, rfl, hown, hB⟩ := hrel
      obtain ⟨wo, hwo⟩ : ∃ wo, wo = wr := ⟨_, rfl⟩
      subst hwo
      by_cases hlt : k < S.length
      case neg =>
        obtain rfl : k = S.length := by omega
        have hg : ¬ ((S.length : Int) < xs.length) := by omega
        have hKr := (hB.block D (hX_lt hK1)).trans hK1
        rw [List.take_length] at hown
        have hDw := hX_lt hK1
        go_wp2
        refine ⟨by simp, .inl ⟨_, _, rfl, run_takeDeferred hKr, ?_⟩⟩
        exact ⟨_, results_tmp rfl _ _ _, _, rfl, World.ownsRow.mono (ownsRow_putObj hown _ hKr rfl) hWW, (hB2.trans (hB.mono hWW)).trans (belowK_b (w := w) (Nat.le_refl _) _ D _ _ (by omega) hKr rfl rfl)⟩
      case pos =>
        have hlt2 : k < xs.length := by omega
        have hslk := hsl _ (List.getElem_mem hlt)
        obtain ⟨s, hs⟩ : ∃ s, (S[k]'hlt).1 = s := ⟨_, rfl⟩
        obtain ⟨vals, hvals⟩ : ∃ v, (S[k]'hlt).2 = v := ⟨_, rfl⟩
        have hvl := hS2 _ (List.getElem_mem hlt)
        rw [hs, hvals] at hslk
        rw [hvals] at hvl
        have hsx : xs[k]'hlt2 = s := by subst hxs; simp [hs]
        have hsv : S[k]'hlt = (s, vals) := by rw [← hs, ← hvals]
        rcases hx with ⟨c, _, h0⟩ | ⟨b, off, cap, hsl0, hb0, hobs⟩
        · rw [h0] at hlt2; exact absurd hlt2 (Nat.not_lt_zero _)
        obtain ⟨rfl, rfl⟩ : a3 = some ⟨b, off, none⟩ ∧ c3 = cap := by simpa using hsl0
        have hcj : ∀ j u, s.cells[j]? = some u → wo.cell? ⟨b, off + k * 8 + j, none⟩ = some u := by
          intro j u hu
          rw [← hsx] at hu
          have := ((hB2.trans (hB.mono hWW)).cell (p := ⟨b, off + (k * 8 + j), none⟩) hb0).trans (hobs k hlt2 j u hu)
          rw [Nat.add_assoc]; exact this
        have c0 := hcj 0 _ rfl
        rw [Nat.add_zero] at c0
        have c1 := hcj 1 _ rfl
        have c2 := hcj 2 _ rfl
        have c3 := hcj 3 _ rfl
        have c4 := hcj 4 _ rfl
        have c5 := hcj 5 _ rfl
        have c6 := hcj 6 _ rfl
        have c7 := hcj 7 _ rfl
        have hg : (k : Int) < xs.length := by omega
        have hBa := hB.alloc hB.size (.cells s.cells.toArray 36)
        have ha := alloc_at wo (.cells s.cells.toArray 36)
        obtain ⟨⟨e0, e1, e2, e3, e4, e5, e6⟩, ⟨e7, e8⟩, e9, _⟩ := hE _ hBa
        have t0 := cell_at ha 0
        have t1 := cell_at ha 1
        have t2 := cell_at ha 2
        have t3 := cell_at ha 3
        have t4 := cell_at ha 4
        have t5 := cell_at ha 5
        have t6 := cell_at ha 6
        have t7 := cell_at ha 7
        unfold Ob.cells at t0 t1 t2 t3 t4 t5 t6 t7 e0 e1 e2 e3 e4 e5 e6 e7 e8 e9
        simp only [List.getElem?_toArray, List.getElem?_cons_zero, List.getElem?_cons_succ] at t0 t1 t2 t3 t4 t5 t6 t7
        clear hcj
        have hP4 : ∀ w4, Below (wo.alloc (.cells s.cells.toArray 36)).heap.size (wo.alloc (.cells s.cells.toArray 36)) w4 → Below W1.heap.size W1 w4 ∧ wo.heap.size < w4.heap.size ∧ w4.heap[wo.heap.size]? = some (.cells s.cells.toArray 36 (0, 0)) ∧ (s.cells.toArray = s.cells.toArray) := fun w4 hb4 => ⟨hBa.trans (hb4.mono (by have := hB.size; simp; omega)), by have := hb4.size; simp at this; omega, (hb4.block _ (by simp)).trans ha, rfl⟩
        have hLk := auditL_length self tof xs (S.take k) 100000 (fun q hq => hS2 q (List.mem_of_mem_take hq))
        have hLk : (auditL self tof xs (S.take k)).length ≤ 10000100000 := by
          rw [List.length_take, Nat.min_eq_left (by omega)] at hLk
          have := Nat.mul_le_mul_right (100000 + 1) (Nat.le_trans hk hS1)
          omega
        cases hsf : agedV white (con s.h) s.col s.age
        case true =>
          go_wp2_with (go_at_call 32; refine (aged_calls _ 1 0 white _ _ _ _ s.h s.kind s.weak s.arr (.slice s.sa s.sn s.sc) s.fin s.col s.age (con s.h) (fun X hX => hcon X (((hB2.trans (hB.mono hWW)).alloc (Nat.le_trans hWW hB.size) _).trans (hX.mono (by have := hB.size; simp; omega))) _ s.wh)).mono ?_; rintro e w4 ⟨he, hb4⟩; rw [hsf] at he; subst he; obtain ⟨hB4, hlt4, hh4, _⟩ := hP4 _ hb4; clear e0 e1 e2 e3 e4 e5 e6 e7 e8 e9 t0 t1 t2 t3 t4 t5 t6 t7 c0 c1 c2 c3 c4 c5 c6 c7; obtain ⟨⟨e0, e1, e2, e3, e4, e5, e6⟩, ⟨e7, e8⟩, e9, _⟩ := hE _ hB4; have t0 := cell_at hh4 0; have t1 := cell_at hh4 1; have t2 := cell_at hh4 2; have t3 := cell_at hh4 3; have t4 := cell_at hh4 4; have t5 := cell_at hh4 5; have t6 := cell_at hh4 6; have t7 := cell_at hh4 7; unfold Ob.cells at t0 t1 t2 t3 t4 t5 t6 t7; simp only [List.getElem?_toArray, List.getElem?_cons_zero, List.getElem?_cons_succ] at t0 t1 t2 t3 t4 t5 t6 t7)
          go_quiet (fail)
          go_wp2
          obtain ⟨wi, hwi⟩ : ∃ wi, w4.drewN nq = wi := ⟨_, rfl⟩
          obtain ⟨L1, hL1⟩ : ∃ L1, auditL self tof xs (S.take k) = L1 := ⟨_, rfl⟩
          have hown1 : wi.ownsRow W1.heap.size 46 2 u7 L1.length (flatW L1) := by rw [← hwi, ← hL1]; exact own_below (hown.alloc _) (pw_below_drewN hb4 _)
          have hBi : Below W1.heap.size W1 wi := by rw [← hwi]; exact pw_below_drewN hB4 _
          have hhi : wi.heap[wo.heap.size]? = some (.cells s.cells.toArray 36 (0, 0)) := by rw [← hwi]; exact hh4
          have hL1b : L1.length ≤ 10000200001 := by
            rw [← hL1]; omega
          rw [hwi]
          clear hwi
          have hsn : s.sn = vals.length := by
            rcases hslk with ⟨_, h1, h2⟩ | ⟨_, _, _, h1, _⟩
            · rw [h1, h2]; rfl
            · exact h1
          rw [hsn]
          go_loopw [7, 68] (fun v i wj => ∃ j : Nat, j ≤ vals.length ∧ i = .int .i64 j ∧ wj.ownsRow W1.heap.size 46 2 v (L1 ++ slotsOut tof xs s (vals.take j) 0).length (flatW (L1 ++ slotsOut tof xs s (vals.take j) 0)) ∧ Below W1.heap.size W1 wj ∧ wj.heap[wo.heap.size]? = some (.cells s.cells.toArray 36 (0, 0))) (fun _ i _ => vals.length - (intOf i).toNat)
          case atStart => exact ⟨0, Nat.zero_le _, rfl, by simpa [slotsOut] using hown1, hBi, hhi⟩
          case round =>
            obtain ⟨j, hj, rfl, hownj, hBj, hhj⟩ := hrel
            by_cases hjl : j < vals.length
            case neg =>
              obtain rfl : j = vals.length := by omega
              have hgj : ¬ ((vals.length : Int) < vals.length) := by omega
              go_wp2
              go_roundw
              case rel =>
                refine ⟨k + 1, by omega, by simp, ?_, hBj⟩
                rw [auditL_take _ _ _ _ _ hlt, hsv]
                rw [List.take_length] at hownj
                have hone : auditL self tof xs (S.take k) ++ auditOne self tof xs (s, vals) = L1 ++ slotsOut tof xs s vals 0 := by
                  have hs9 : self s = true := by rw [← hself]; exact hsf
                  rw [← hL1]; simp [auditOne, hs9]
                rw [hone]; exact hownj
              case measure => simp [intOf]; omega
            case pos =>
              obtain ⟨x, hxv⟩ : ∃ x, vals[j]'hjl = x := ⟨_, rfl⟩
              rcases hslk with ⟨_, _, h0⟩ | ⟨b2, off2, hsa, _, hb2, hcells⟩
              · rw [h0] at hjl; exact absurd hjl (Nat.not_lt_zero _)
              obtain ⟨hx0, hx1⟩ := hcells j hjl
              rw [hxv] at hx0 hx1
              have hBw := hB2.trans (hBj.mono hWW)
              have d0 := (hBw.cell (p := ⟨b2, off2 + j * 2, none⟩) hb2).trans hx0
              have d1 := (hBw.cell (p := ⟨b2, off2 + j * 2 + 1, none⟩) hb2).trans hx1
              rw [hsa]
              have hgj : (j : Int) < vals.length := by omega
              have hlb := hX_lt hhj
              have hBx := hBj.alloc hBj.size (.cells #[.int .i64 x.t, .int .i64 x.n] 38)
              have hhx := (Below.heap_alloc wr (.cells #[.int .i64 x.t, .int .i64 x.n] 38) _ hlb).trans hhj
              have hownx := hownj.alloc (.cells #[.int .i64 x.t, .int .i64 x.n] 38)
              have hstep := slotsOut_take tof xs s vals j hjl
              rw [hxv] at hstep
              have hLb : (L1 ++ slotsOut tof xs s (vals.take j) 0).length ≤ 20000000000 := by
                have := slotsOut_length tof xs s (vals.take j) 0
                rw [List.length_take] at this
                rw [List.length_append]
                omega
              clear hx0 hx1 hcells hBw
              by_cases ht : x.t < 4 ∨ 9 < x.t
              case pos =>
                have hbad : slotBad tof xs s x = false := by unfold slotBad; rw [if_pos ht]
                rw [hbad] at hstep
                simp only [Bool.false_eq_true, if_false, List.append_nil] at hstep
                have hend : ∃ j' : Nat, j' ≤ vals.length ∧ Value.int .i64 ((j : Int) + 1) = .int .i64 j' ∧ (wr.alloc (.cells #[.int .i64 x.t, .int .i64 x.n] 38)).ownsRow W1.heap.size 46 2 u7 (L1 ++ slotsOut tof xs s (vals.take j') 0).length (flatW (L1 ++ slotsOut tof xs s (vals.take j') 0)) ∧ Below W1.heap.size W1 (wr.alloc (.cells #[.int .i64 x.t, .int .i64 x.n] 38)) ∧ (wr.alloc (.cells #[.int .i64 x.t, .int .i64 x.n] 38)).heap[wo.heap.size]? = some (.cells s.cells.toArray 36 (0, 0)) := ⟨j + 1, by omega, by simp, by rw [hstep]; exact hownx, hBx, hhx⟩
                by_cases ht1 : x.t < 4
                · go_wp2
                  go_roundw
                  case rel => exact hend
                  case measure => simp [intOf]; omega
                · have ht2 : 9 < x.t := by omega
                  go_wp2
                  go_roundw
                  case rel => exact hend
                  case measure => simp [intOf]; omega
              case neg =>
                have ht1 : ¬ x.t < 4 := by omega
                have ht2 : ¬ 9 < x.t := by omega
                obtain ⟨kl, hkl⟩ := key51 x.n x.t x.wn x.wt
                obtain ⟨_, _, e9, e10⟩ := hE _ hBx
                cases hf : findO xs x.n x.t
                case none =>
                  have hBt := hBx.alloc hBx.size (.cells #[.int .i64 0, .int .i64 0, .int .i64 0, .int .i64 0, .slice none 0 0, .int .i64 0, .int .i64 0, .int .i64 0] 36)
                  have hlx : wo.heap.size < (wr.alloc (.cells #[.int .i64 x.t, .int .i64 x.n] 38)).heap.size := by simp only [World.size_alloc]; omega
                  have hht := (Below.heap_alloc _ (.cells #[.int .i64 0, .int .i64 0, .int .i64 0, .int .i64 0, .slice none 0 0, .int .i64 0, .int .i64 0, .int .i64 0] 36) _ hlx).trans hhx
                  have hlt3 := hX_lt hht
                  have t0 := cell_at hht 0
                  unfold Ob.cells at t0
                  simp only [List.getElem?_toArray, List.getElem?_cons_zero] at t0
                  have hownt := hownx.alloc (.cells #[.int .i64 0, .int .i64 0, .int .i64 0, .int .i64 0, .slice none 0 0, .int .i64 0, .int .i64 0, .int .i64 0] 36)
                  have hnews := cell_two_new ((wr.alloc (.cells #[.int .i64 x.t, .int .i64 x.n] 38)).alloc (.cells #[.int .i64 0, .int .i64 0, .int .i64 0, .int .i64 0, .slice none 0 0, .int .i64 0, .int .i64 0, .int .i64 0] 36)) (.int .i64 s.h) (.int .i64 (j : Int)) 46
                  simp only [World.size_alloc] at hnews
                  have hBjs := hBj.size
                  go_wp2_with (first | (at_lookup; refine wp_lookup rfl _ _ _ rfl K51 Try.underlying47 hz36 rfl e10 (key := pairV x.n x.t) rfl hkl ?_; rw [mapR_find, hf]; simp only [Option.map_none, Option.getD_none, Option.isSome_none]) | (at_builtin; refine wpList_append_own _ rfl _ _ 39 rfl W1.heap.size 46 i0 (.agg #[.int .i64 0, .int .i64 0]) 2 16 Try.underlying39 hi0 hz0 hz1 hz2 rfl (by decide) _ _ _ rfl (hownt.alloc _) _ 1 1 [.int .i64 s.h, .int .i64 (j : Int)] rfl rfl hnews (fun x hx => by simp at hx; rcases hx with rfl | rfl <;> rfl) (by unfold maxLen; omega) (by omega) (by simp only [World.size_alloc]; omega) ?_; intro v' w5 hown5 hgrow5 hnil5; have hne5 := own_ne hownt hht (by decide); have hlt5 := hgrow5.size; simp only [World.size_alloc] at hlt5; have hh5 := (hgrow5.block _ (by simp only [World.size_alloc]; omega) hne5.symm).trans ((Below.heap_alloc _ _ _ (hX_lt hht)).trans hht); have hB5 := (hBt.alloc hBt.size _).grown hgrow5 (by simp only [World.size_alloc]; omega) (fun q hq => (hownt.lt q hq).1)))
                  go_roundw
                  case rel => exact ⟨j + 1, by omega, by simp, by rw [hstep]; simp only [slotBad_none ht hf, if_true, ← List.append_assoc]; rw [flatW_snoc, List.length_append]; exact hown5, hB5, hh5⟩
                  case measure => simp [intOf]; omega
                case some y =>
                  have hBt := hBx.alloc hBx.size (.cells #[.int .i64 y.h, .int .i64 y.kind, .int .i64 y.weak, .int .i64 y.arr, .slice y.sa y.sn y.sc, .int .i64 y.fin, .int .i64 y.col, .int .i64 y.age] 36)
                  have hlx : wo.heap.size < (wr.alloc (.cells #[.int .i64 x.t, .int .i64 x.n] 38)).heap.size := by simp only [World.size_alloc]; omega
                  have hht := (Below.heap_alloc _ (.cells #[.int .i64 y.h, .int .i64 y.kind, .int .i64 y.weak, .int .i64 y.arr, .slice y.sa y.sn y.sc, .int .i64 y.fin, .int .i64 y.col, .int .i64 y.age] 36) _ hlx).trans hhx
                  have hlt3 := hX_lt hht
                  have hownt := hownx.alloc (.cells #[.int .i64 y.h, .int .i64 y.kind, .int .i64 y.weak, .int .i64 y.arr, .slice y.sa y.sn y.sc, .int .i64 y.fin, .int .i64 y.col, .int .i64 y.age] 36)
                  have hBjs := hBj.size
                  have hbad := slotBad_some (tof := tof) (s := s) ht hf
                  have hP6 : ∀ w6, Below ((wr.alloc (.cells #[.int .i64 x.t, .int .i64 x.n] 38)).alloc (.cells #[.int .i64 y.h, .int .i64 y.kind, .int .i64 y.weak, .int .i64 y.arr, .slice y.sa y.sn y.sc, .int .i64 y.fin, .int .i64 y.col, .int .i64 y.age] 36)).heap.size ((wr.alloc (.cells #[.int .i64 x.t, .int .i64 x.n] 38)).alloc (.cells #[.int .i64 y.h, .int .i64 y.kind, .int .i64 y.weak, .int .i64 y.arr, .slice y.sa y.sn y.sc, .int .i64 y.fin, .int .i64 y.col, .int .i64 y.age] 36)) w6 → Below W1.heap.size W1 w6 ∧ w6.heap[wo.heap.size]? = some (.cells s.cells.toArray 36 (0, 0)) ∧ W1.heap.size ≤ w6.heap.size := fun w6 hb6 => ⟨hBt.trans (hb6.mono hBt.size), (hb6.block _ hlt3).trans hht, Nat.le_trans hBt.size hb6.size⟩
                  obtain ⟨⟨e0, e1, e2, e3, e4, e5, e6⟩, ⟨e7, e8⟩, _, _⟩ := hE _ hBt
                  have t0 := cell_at hht 0
                  have t1 := cell_at hht 1
                  have t2 := cell_at hht 2
                  have t3 := cell_at hht 3
                  have t4 := cell_at hht 4
                  have t5 := cell_at hht 5
                  have t6 := cell_at hht 6
                  have t7 := cell_at hht 7
                  unfold Ob.cells at t0 t1 t2 t3 t4 t5 t6 t7
                  simp only [List.getElem?_toArray, List.getElem?_cons_zero, List.getElem?_cons_succ] at t0 t1 t2 t3 t4 t5 t6 t7
                  rw [← hto] at hbad
                  cases htf : leadsV s.age y.age
                  case true =>
                    simp only [htf, Bool.not_true] at hbad
                    rw [hto] at hbad
                    rw [hbad] at hstep
                    simp only [Bool.false_eq_true, if_false, List.append_nil] at hstep
                    go_wp2_with (first | (at_lookup; refine wp_lookup rfl _ _ _ rfl K51 Try.underlying47 hz36 rfl e10 (key := pairV x.n x.t) rfl hkl ?_; rw [mapR_find, hf]; simp only [Option.map_some, Option.getD_some, Option.isSome_some]; unfold Ob.val Ob.cells) | (go_at_call 33; refine (leads_calls _ 1 0 white _ _ _ _ s.h s.kind s.weak s.arr _ s.fin s.col s.age y.h y.kind y.weak y.arr _ y.fin y.col y.age).mono ?_; rintro e w6 ⟨he, hb6⟩; rw [htf] at he; subst he; obtain ⟨hB6, hh6, hs6⟩ := hP6 _ hb6))
                    go_roundw
                    case rel => exact ⟨j + 1, by omega, by simp, by rw [hstep]; exact own_below hownt hb6, hB6, hh6⟩
                    case measure => simp [intOf]; omega
                  case false =>
                    simp only [htf, Bool.not_false] at hbad
                    rw [hto] at hbad
                    rw [hbad] at hstep
                    simp only [if_true] at hstep
                    go_wp2_with (first | (at_lookup; refine wp_lookup rfl _ _ _ rfl K51 Try.underlying47 hz36 rfl e10 (key := pairV x.n x.t) rfl hkl ?_; rw [mapR_find, hf]; simp only [Option.map_some, Option.getD_some, Option.isSome_some]; unfold Ob.val Ob.cells) | ((go_at_call 33; refine (leads_calls _ 1 0 white _ _ _ _ s.h s.kind s.weak s.arr _ s.fin s.col s.age y.h y.kind y.weak y.arr _ y.fin y.col y.age).mono ?_; rintro e w6 ⟨he, hb6⟩; rw [htf] at he; subst he; obtain ⟨hB6, hh6, hs6⟩ := hP6 _ hb6); have hlt6 := hX_lt hh6; have hown6 := own_below hownt hb6; have t0 := cell_at hh6 0; unfold Ob.cells at t0; simp only [List.getElem?_toArray, List.getElem?_cons_zero] at t0; have hnews := cell_two_new w6 (.int .i64 s.h) (.int .i64 (j : Int)) 46) | (at_builtin; refine wpList_append_own _ rfl _ _ 39 rfl W1.heap.size 46 i0 (.agg #[.int .i64 0, .int .i64 0]) 2 16 Try.underlying39 hi0 hz0 hz1 hz2 rfl (by decide) _ _ _ rfl (hown6.alloc _) _ 1 1 [.int .i64 s.h, .int .i64 (j : Int)] rfl rfl hnews (fun x hx => by simp at hx; rcases hx with rfl | rfl <;> rfl) (by unfold maxLen; omega) (by omega) (by simp only [World.size_alloc]; omega) ?_; intro v' w5 hown5 hgrow5 hnil5; have hne5 := own_ne hown6 hh6 (by decide); have hlt5 := hgrow5.size; simp only [World.size_alloc] at hlt5; have hh5 := (hgrow5.block _ (by simp only [World.size_alloc]; omega) hne5.symm).trans ((Below.heap_alloc _ _ _ (hX_lt hh6)).trans hh6); have hB5 := (hB6.alloc hB6.size _).grown hgrow5 (by simp only [World.size_alloc]; omega) (fun q hq => (hown6.lt q hq).1)))
                    go_roundw
                    case rel => exact ⟨j + 1, by omega, by simp, by rw [hstep, ← List.append_assoc]; rw [flatW_snoc, List.length_append]; exact hown5, hB5, hh5⟩
                    case measure => simp [intOf]; omega
        case false =>
          go_wp2_with (first | (go_at_call 32; refine (aged_calls _ 1 0 white _ _ _ _ s.h s.kind s.weak s.arr (.slice s.sa s.sn s.sc) s.fin s.col s.age (con s.h) (fun X hX => hcon X (((hB2.trans (hB.mono hWW)).alloc (Nat.le_trans hWW hB.size) _).trans (hX.mono (by have := hB.size; simp; omega))) _ s.wh)).mono ?_; rintro e w4 ⟨he, hb4⟩; rw [hsf] at he; subst he; obtain ⟨hB4, hlt4, hh4, _⟩ := hP4 _ hb4; clear e0 e1 e2 e3 e4 e5 e6 e7 e8 e9 t0 t1 t2 t3 t4 t5 t6 t7 c0 c1 c2 c3 c4 c5 c6 c7; obtain ⟨⟨e0, e1, e2, e3, e4, e5, e6⟩, ⟨e7, e8⟩, e9, _⟩ := hE _ hB4; have t0 := cell_at hh4 0; have t1 := cell_at hh4 1; have t2 := cell_at hh4 2; have t3 := cell_at hh4 3; have t4 := cell_at hh4 4; have t5 := cell_at hh4 5; have t6 := cell_at hh4 6; have t7 := cell_at hh4 7; unfold Ob.cells at t0 t1 t2 t3 t4 t5 t6 t7; simp only [List.getElem?_toArray, List.getElem?_cons_zero, List.getElem?_cons_succ] at t0 t1 t2 t3 t4 t5 t6 t7; have hs4 := hB4.size; have hown4 := own_below (hown.alloc _) hb4; have hnews := cell_two_new w4 (.int .i64 s.h) (.int .i64 (-1)) 46) | (at_builtin; refine wpList_append_own _ rfl _ _ 39 rfl W1.heap.size 46 i0 (.agg #[.int .i64 0, .int .i64 0]) 2 16 Try.underlying39 hi0 hz0 hz1 hz2 rfl (by decide) _ _ _ rfl (hown4.alloc _) _ 1 1 [.int .i64 s.h, .int .i64 (-1)] rfl rfl hnews (fun x hx => by simp at hx; rcases hx with rfl | rfl <;> rfl) (by unfold maxLen; omega) (by omega) (by simp only [World.size_alloc]; omega) ?_; intro v' w5 hown5 hgrow5 hnil5; have hne5 := own_ne hown4 hh4 (by decide); have hlt5 := hgrow5.size; simp only [World.size_alloc] at hlt5; have hh5 := (hgrow5.block _ (by simp only [World.size_alloc]; omega) hne5.symm).trans ((Below.heap_alloc _ _ _ (hX_lt hh4)).trans hh4); have hB5 := (hB4.alloc hB4.size _).grown hgrow5 (by simp only [World.size_alloc]; omega) (fun q hq => (hown4.lt q hq).1); clear e0 e1 e2 e3 e4 e5 e6 e7 e8 e9 t0 t1 t2 t3 t4 t5 t6 t7; obtain ⟨⟨e0, e1, e2, e3, e4, e5, e6⟩, ⟨e7, e8⟩, e9, _⟩ := hE _ hB5; have t0 := cell_at hh5 0; have t1 := cell_at hh5 1; have t2 := cell_at hh5 2; have t3 := cell_at hh5 3; have t4 := cell_at hh5 4; have t5 := cell_at hh5 5; have t6 := cell_at hh5 6; have t7 := cell_at hh5 7; unfold Ob.cells at t0 t1 t2 t3 t4 t5 t6 t7; simp only [List.getElem?_toArray, List.getElem?_cons_zero, List.getElem?_cons_succ] at t0 t1 t2 t3 t4 t5 t6 t7))
          go_quiet (fail)
          go_wp2
          obtain ⟨wi, hwi⟩ : ∃ wi, w5.drewN nq = wi := ⟨_, rfl⟩
          obtain ⟨L1, hL1⟩ : ∃ L1, auditL self tof xs (S.take k) ++ [(s.h, -1)] = L1 := ⟨_, rfl⟩
          have hown1 : wi.ownsRow W1.heap.size 46 2 v' L1.length (flatW L1) := by rw [← hwi, ← hL1]; exact (by rw [flatW_snoc, List.length_append]; exact hown5)
          have hBi : Below W1.heap.size W1 wi := by rw [← hwi]; exact pw_below_drewN hB5 _
          have hhi : wi.heap[wo.heap.size]? = some (.cells s.cells.toArray 36 (0, 0)) := by rw [← hwi]; exact hh5
          have hL1b : L1.length ≤ 10000200001 := by
            rw [← hL1, List.length_append]; simp only [List.length_cons, List.length_nil]; omega
          rw [hwi]
          clear hwi
          have hsn : s.sn = vals.length := by
            rcases hslk with ⟨_, h1, h2⟩ | ⟨_, _, _, h1, _⟩
            · rw [h1, h2]; rfl
            · exact h1
          rw [hsn]
          go_loopw [7, 68] (fun v i wj => ∃ j : Nat, j ≤ vals.length ∧ i = .int .i64 j ∧ wj.ownsRow W1.heap.size 46 2 v (L1 ++ slotsOut tof xs s (vals.take j) 0).length (flatW (L1 ++ slotsOut tof xs s (vals.take j) 0)) ∧ Below W1.heap.size W1 wj ∧ wj.heap[wo.heap.size]? = some (.cells s.cells.toArray 36 (0, 0))) (fun _ i _ => vals.length - (intOf i).toNat)
          case atStart => exact ⟨0, Nat.zero_le _, rfl, by simpa [slotsOut] using hown1, hBi, hhi⟩
          case round =>
            obtain ⟨j, hj, rfl, hownj, hBj, hhj⟩ := hrel
            by_cases hjl : j < vals.length
            case neg =>
              obtain rfl : j = vals.length := by omega
              have hgj : ¬ ((vals.length : Int) < vals.length) := by omega
              go_wp2
              go_roundw
              case rel =>
                refine ⟨k + 1, by omega, by simp, ?_, hBj⟩
                rw [auditL_take _ _ _ _ _ hlt, hsv]
                rw [List.take_length] at hownj
                have hone : auditL self tof xs (S.take k) ++ auditOne self tof xs (s, vals) = L1 ++ slotsOut tof xs s vals 0 := by
                  have hs9 : self s = false := by rw [← hself]; exact hsf
                  rw [← hL1]; simp [auditOne, hs9]
                rw [hone]; exact hownj
              case measure => simp [intOf]; omega
            case pos =>
              obtain ⟨x, hxv⟩ : ∃ x, vals[j]'hjl = x := ⟨_, rfl⟩
              rcases hslk with ⟨_, _, h0⟩ | ⟨b2, off2, hsa, _, hb2, hcells⟩
              · rw [h0] at hjl; exact absurd hjl (Nat.not_lt_zero _)
              obtain ⟨hx0, hx1⟩ := hcells j hjl
              rw [hxv] at hx0 hx1
              have hBw := hB2.trans (hBj.mono hWW)
              have d0 := (hBw.cell (p := ⟨b2, off2 + j * 2, none⟩) hb2).trans hx0
              have d1 := (hBw.cell (p := ⟨b2, off2 + j * 2 + 1, none⟩) hb2).trans hx1
              rw [hsa]
              have hgj : (j : Int) < vals.length := by omega
              have hlb := hX_lt hhj
              have hBx := hBj.alloc hBj.size (.cells #[.int .i64 x.t, .int .i64 x.n] 38)
              have hhx := (Below.heap_alloc wr (.cells #[.int .i64 x.t, .int .i64 x.n] 38) _ hlb).trans hhj
              have hownx := hownj.alloc (.cells #[.int .i64 x.t, .int .i64 x.n] 38)
              have hstep := slotsOut_take tof xs s vals j hjl
              rw [hxv] at hstep
              have hLb : (L1 ++ slotsOut tof xs s (vals.take j) 0).length ≤ 20000000000 := by
                have := slotsOut_length tof xs s (vals.take j) 0
                rw [List.length_take] at this
                rw [List.length_append]
                omega
              clear hx0 hx1 hcells hBw
              by_cases ht : x.t < 4 ∨ 9 < x.t
              case pos =>
                have hbad : slotBad tof xs s x = false := by unfold slotBad; rw [if_pos ht]
                rw [hbad] at hstep
                simp only [Bool.false_eq_true, if_false, List.append_nil] at hstep
                have hend : ∃ j' : Nat, j' ≤ vals.length ∧ Value.int .i64 ((j : Int) + 1) = .int .i64 j' ∧ (wr.alloc (.cells #[.int .i64 x.t, .int .i64 x.n] 38)).ownsRow W1.heap.size 46 2 u7 (L1 ++ slotsOut tof xs s (vals.take j') 0).length (flatW (L1 ++ slotsOut tof xs s (vals.take j') 0)) ∧ Below W1.heap.size W1 (wr.alloc (.cells #[.int .i64 x.t, .int .i64 x.n] 38)) ∧ (wr.alloc (.cells #[.int .i64 x.t, .int .i64 x.n] 38)).heap[wo.heap.size]? = some (.cells s.cells.toArray 36 (0, 0)) := ⟨j + 1, by omega, by simp, by rw [hstep]; exact hownx, hBx, hhx⟩
                by_cases ht1 : x.t < 4
                · go_wp2
                  go_roundw
                  case rel => exact hend
                  case measure => simp [intOf]; omega
                · have ht2 : 9 < x.t := by omega
                  go_wp2
                  go_roundw
                  case rel => exact hend
                  case measure => simp [intOf]; omega
              case neg =>
                have ht1 : ¬ x.t < 4 := by omega
                have ht2 : ¬ 9 < x.t := by omega
                obtain ⟨kl, hkl⟩ := key51 x.n x.t x.wn x.wt
                obtain ⟨_, _, e9, e10⟩ := hE _ hBx
                cases hf : findO xs x.n x.t
                case none =>
                  have hBt := hBx.alloc hBx.size (.cells #[.int .i64 0, .int .i64 0, .int .i64 0, .int .i64 0, .slice none 0 0, .int .i64 0, .int .i64 0, .int .i64 0] 36)
                  have hlx : wo.heap.size < (wr.alloc (.cells #[.int .i64 x.t, .int .i64 x.n] 38)).heap.size := by simp only [World.size_alloc]; omega
                  have hht := (Below.heap_alloc _ (.cells #[.int .i64 0, .int .i64 0, .int .i64 0, .int .i64 0, .slice none 0 0, .int .i64 0, .int .i64 0, .int .i64 0] 36) _ hlx).trans hhx
                  have hlt3 := hX_lt hht
                  have t0 := cell_at hht 0
                  unfold Ob.cells at t0
                  simp only [List.getElem?_toArray, List.getElem?_cons_zero] at t0
                  have hownt := hownx.alloc (.cells #[.int .i64 0, .int .i64 0, .int .i64 0, .int .i64 0, .slice none 0 0, .int .i64 0, .int .i64 0, .int .i64 0] 36)
                  have hnews := cell_two_new ((wr.alloc (.cells #[.int .i64 x.t, .int .i64 x.n] 38)).alloc (.cells #[.int .i64 0, .int .i64 0, .int .i64 0, .int .i64 0, .slice none 0 0, .int .i64 0, .int .i64 0, .int .i64 0] 36)) (.int .i64 s.h) (.int .i64 (j : Int)) 46
                  simp only [World.size_alloc] at hnews
                  have hBjs := hBj.size
                  go_wp2_with (first | (at_lookup; refine wp_lookup rfl _ _ _ rfl K51 Try.underlying47 hz36 rfl e10 (key := pairV x.n x.t) rfl hkl ?_; rw [mapR_find, hf]; simp only [Option.map_none, Option.getD_none, Option.isSome_none]) | (at_builtin; refine wpList_append_own _ rfl _ _ 39 rfl W1.heap.size 46 i0 (.agg #[.int .i64 0, .int .i64 0]) 2 16 Try.underlying39 hi0 hz0 hz1 hz2 rfl (by decide) _ _ _ rfl (hownt.alloc _) _ 1 1 [.int .i64 s.h, .int .i64 (j : Int)] rfl rfl hnews (fun x hx => by simp at hx; rcases hx with rfl | rfl <;> rfl) (by unfold maxLen; omega) (by omega) (by simp only [World.size_alloc]; omega) ?_; intro v' w5 hown5 hgrow5 hnil5; have hne5 := own_ne hownt hht (by decide); have hlt5 := hgrow5.size; simp only [World.size_alloc] at hlt5; have hh5 := (hgrow5.block _ (by simp only [World.size_alloc]; omega) hne5.symm).trans ((Below.heap_alloc _ _ _ (hX_lt hht)).trans hht); have hB5 := (hBt.alloc hBt.size _).grown hgrow5 (by simp only [World.size_alloc]; omega) (fun q hq => (hownt.lt q hq).1)))
                  go_roundw
                  case rel => exact ⟨j + 1, by omega, by simp, by rw [hstep]; simp only [slotBad_none ht hf, if_true, ← List.append_assoc]; rw [flatW_snoc, List.length_append]; exact hown5, hB5, hh5⟩
                  case measure => simp [intOf]; omega
                case some y =>
                  have hBt := hBx.alloc hBx.size (.cells #[.int .i64 y.h, .int .i64 y.kind, .int .i64 y.weak, .int .i64 y.arr, .slice y.sa y.sn y.sc, .int .i64 y.fin, .int .i64 y.col, .int .i64 y.age] 36)
                  have hlx : wo.heap.size < (wr.alloc (.cells #[.int .i64 x.t, .int .i64 x.n] 38)).heap.size := by simp only [World.size_alloc]; omega
                  have hht := (Below.heap_alloc _ (.cells #[.int .i64 y.h, .int .i64 y.kind, .int .i64 y.weak, .int .i64 y.arr, .slice y.sa y.sn y.sc, .int .i64 y.fin, .int .i64 y.col, .int .i64 y.age] 36) _ hlx).trans hhx
                  have hlt3 := hX_lt hht
                  have hownt := hownx.alloc (.cells #[.int .i64 y.h, .int .i64 y.kind, .int .i64 y.weak, .int .i64 y.arr, .slice y.sa y.sn y.sc, .int .i64 y.fin, .int .i64 y.col, .int .i64 y.age] 36)
                  have hBjs := hBj.size
                  have hbad := slotBad_some (tof := tof) (s := s) ht hf
                  have hP6 : ∀ w6, Below ((wr.alloc (.cells #[.int .i64 x.t, .int .i64 x.n] 38)).alloc (.cells #[.int .i64 y.h, .int .i64 y.kind, .int .i64 y.weak, .int .i64 y.arr, .slice y.sa y.sn y.sc, .int .i64 y.fin, .int .i64 y.col, .int .i64 y.age] 36)).heap.size ((wr.alloc (.cells #[.int .i64 x.t, .int .i64 x.n] 38)).alloc (.cells #[.int .i64 y.h, .int .i64 y.kind, .int .i64 y.weak, .int .i64 y.arr, .slice y.sa y.sn y.sc, .int .i64 y.fin, .int .i64 y.col, .int .i64 y.age] 36)) w6 → Below W1.heap.size W1 w6 ∧ w6.heap[wo.heap.size]? = some (.cells s.cells.toArray 36 (0, 0)) ∧ W1.heap.size ≤ w6.heap.size := fun w6 hb6 => ⟨hBt.trans (hb6.mono hBt.size), (hb6.block _ hlt3).trans hht, Nat.le_trans hBt.size hb6.size⟩
                  obtain ⟨⟨e0, e1, e2, e3, e4, e5, e6⟩, ⟨e7, e8⟩, _, _⟩ := hE _ hBt
                  have t0 := cell_at hht 0
                  have t1 := cell_at hht 1
                  have t2 := cell_at hht 2
                  have t3 := cell_at hht 3
                  have t4 := cell_at hht 4
                  have t5 := cell_at hht 5
                  have t6 := cell_at hht 6
                  have t7 := cell_at hht 7
                  unfold Ob.cells at t0 t1 t2 t3 t4 t5 t6 t7
                  simp only [List.getElem?_toArray, List.getElem?_cons_zero, List.getElem?_cons_succ] at t0 t1 t2 t3 t4 t5 t6 t7
                  rw [← hto] at hbad
                  cases htf : leadsV s.age y.age
                  case true =>
                    simp only [htf, Bool.not_true] at hbad
                    rw [hto] at hbad
                    rw [hbad] at hstep
                    simp only [Bool.false_eq_true, if_false, List.append_nil] at hstep
                    go_wp2_with (first | (at_lookup; refine wp_lookup rfl _ _ _ rfl K51 Try.underlying47 hz36 rfl e10 (key := pairV x.n x.t) rfl hkl ?_; rw [mapR_find, hf]; simp only [Option.map_some, Option.getD_some, Option.isSome_some]; unfold Ob.val Ob.cells) | (go_at_call 33; refine (leads_calls _ 1 0 white _ _ _ _ s.h s.kind s.weak s.arr _ s.fin s.col s.age y.h y.kind y.weak y.arr _ y.fin y.col y.age).mono ?_; rintro e w6 ⟨he, hb6⟩; rw [htf] at he; subst he; obtain ⟨hB6, hh6, hs6⟩ := hP6 _ hb6))
                    go_roundw
                    case rel => exact ⟨j + 1, by omega, by simp, by rw [hstep]; exact own_below hownt hb6, hB6, hh6⟩
                    case measure => simp [intOf]; omega
                  case false =>
                    simp only [htf, Bool.not_false] at hbad
                    rw [hto] at hbad
                    rw [hbad] at hstep
                    simp only [if_true] at hstep
                    go_wp2_with (first | (at_lookup; refine wp_lookup rfl _ _ _ rfl K51 Try.underlying47 hz36 rfl e10 (key := pairV x.n x.t) rfl hkl ?_; rw [mapR_find, hf]; simp only [Option.map_some, Option.getD_some, Option.isSome_some]; unfold Ob.val Ob.cells) | ((go_at_call 33; refine (leads_calls _ 1 0 white _ _ _ _ s.h s.kind s.weak s.arr _ s.fin s.col s.age y.h y.kind y.weak y.arr _ y.fin y.col y.age).mono ?_; rintro e w6 ⟨he, hb6⟩; rw [htf] at he; subst he; obtain ⟨hB6, hh6, hs6⟩ := hP6 _ hb6); have hlt6 := hX_lt hh6; have hown6 := own_below hownt hb6; have t0 := cell_at hh6 0; unfold Ob.cells at t0; simp only [List.getElem?_toArray, List.getElem?_cons_zero] at t0; have hnews := cell_two_new w6 (.int .i64 s.h) (.int .i64 (j : Int)) 46) | (at_builtin; refine wpList_append_own _ rfl _ _ 39 rfl W1.heap.size 46 i0 (.agg #[.int .i64 0, .int .i64 0]) 2 16 Try.underlying39 hi0 hz0 hz1 hz2 rfl (by decide) _ _ _ rfl (hown6.alloc _) _ 1 1 [.int .i64 s.h, .int .i64 (j : Int)] rfl rfl hnews (fun x hx => by simp at hx; rcases hx with rfl | rfl <;> rfl) (by unfold maxLen; omega) (by omega) (by simp only [World.size_alloc]; omega) ?_; intro v' w5 hown5 hgrow5 hnil5; have hne5 := own_ne hown6 hh6 (by decide); have hlt5 := hgrow5.size; simp only [World.size_alloc] at hlt5; have hh5 := (hgrow5.block _ (by simp only [World.size_alloc]; omega) hne5.symm).trans ((Below.heap_alloc _ _ _ (hX_lt hh6)).trans hh6); have hB5 := (hB6.alloc hB6.size _).grown hgrow5 (by simp only [World.size_alloc]; omega) (fun q hq => (hown6.lt q hq).1)))
                    go_roundw
                    case rel => exact ⟨j + 1, by omega, by simp, by rw [hstep, ← List.append_assoc]; rw [flatW_snoc, List.length_append]; exact hown5, hB5, hh5⟩
                    case measure => simp [intOf]; omega
  case stop =>
    rintro D c pre W _ _ h _
    exact h.elim

end Go.Proofs.Ytpdhmfbpmbbmgaa.Mp
