/- heirloomlaw12.AgesFresh: true at every view, at the generational mode. -/
import Derived.Test.YtpdhmfbpmbbmgaaSv
import Derived.Test.YtpdhmfbpmbbmgaaAl
import Derived.Test.YtpdhmfbpmbbmgaaAi
import Derived.Deep.AppendLies
import Derived.Deep.RegionLaw
import Derived.BigRegion
import Derived.Deep.CutRange
import Derived.BigQuiet
import Derived.Deep.QuietTactic
import Derived.Deep.Onto
import Derived.Test.YtpdhmfbpmbbmgaaFc
set_option linter.unusedVariables false
set_option linter.unusedSimpArgs false
namespace Go.Proofs.Ytpdhmfbpmbbmgaa.Mp
open Go.RowKit Go.Shelf Go.Proofs.YtpdhmfbpmbbmgaaW.PrintWords Go.Proofs.YtpdhmfbpmbbmgaaW.PrintLast
set_option maxRecDepth 100000 in
theorem fresh_gen_audit (W : World) (S : List Inp) (sl : Nat → Option Addr × Nat × Nat) (a : Option Addr) (c : Nat) (h60 : S.length ≤ 60) (h600 : ∀ p ∈ S, p.vals.length ≤ 600) {B : Nat} (hown : W.ownsRow (B + 1) 36 8 (.slice a S.length c) S.length (flatS S sl S.length)) (hfin : ∀ j (h : j < S.length), FinRow B W (sl j) ((S[j]'h).vals.map (cleanV S))) :
    Calls Try.prog 17 #[viewV 1 0 1 (.slice a S.length c) (.slice none 0 0) (.slice none 0 0) (.slice none 0 0)] W fun e w' => (∃ x c, e = .returned (.slice x 0 c)) ∧ Below W.heap.size W w' := by
  have hl : ((fS S sl).map (·.1)).length = S.length := by simp [fS]
  have hl2 : (fS S sl).length = S.length := by simp [fS]
  have h9 : ∀ p ∈ fS S sl, p.2.length ≤ 100000 := by
    intro p hp
    obtain ⟨j, hj, rfl⟩ := List.mem_map.1 hp
    have hj : j < S.length := by simpa using hj
    have e : S.getD j Inp.z = S[j]'hj := by simp [hj]
    have := h600 _ (List.getElem_mem hj)
    simp only [e, List.length_map]
    omega
  have h := audit_gen W 1 a c (.slice none 0 0) (.slice none 0 0) (.slice none 0 0) (fS S sl) (fresh_obs S sl rfl hown) (by omega) (fresh_sl S sl hfin) (by omega) h9 (fun h => ([] : List Int).contains h) (fun W' _ h _ => contains_calls W' _ [] (.inl ⟨0, rfl, rfl⟩) (by decide) h)
  rw [fresh_nil S sl _ _ (fun _ => rfl) (fun _ _ => rfl) h60, hl] at h
  refine h.mono ?_
  rintro e w' ⟨v, rfl, ho, hB⟩
  obtain ⟨x, c', rfl⟩ := owns_zero ho
  exact ⟨⟨_, _, rfl⟩, hB⟩
set_option maxHeartbeats 8000000 in
set_option maxRecDepth 100000 in
theorem fresh_gen (w : World) (m ph wh : Int) (a3 : Option Addr) (c3 : Nat) (S : List Inp) (a4 : Option Addr) (n4 c4 : Nat) (a5 : Option Addr) (n5 c5 : Nat) (a6 : Option Addr) (n6 c6 : Nat) (hS : SeenIn w a3 S) (hb : S.length * 80 ≤ reachBytes) (hb5 : n5 * 8 ≤ reachBytes) :
    Calls Try.prog 5 #[.agg #[.int .i64 m, .int .i64 ph, .int .i64 wh, .slice a3 S.length c3, .slice a4 n4 c4, .slice a5 n5 c5, .slice a6 n6 c6], .bool true] w fun e w' => e = .returned (.bool true) ∧ Below w.heap.size w w' := by
  obtain ⟨i0, hi0, hz0, hz1, hz2⟩ := info_parts info36
  obtain ⟨i1, hi1, hz3, hz4, hz5⟩ := info_parts info38
  obtain ⟨V, hV⟩ : ∃ V, V = w.alloc (.cells #[.int .i64 m, .int .i64 ph, .int .i64 wh, .slice a3 S.length c3, .slice a4 n4 c4, .slice a5 n5 c5, .slice a6 n6 c6] 30) := ⟨_, rfl⟩
  have hVB : Below w.heap.size w V := by rw [hV]; exact (Below.refl _ w).alloc (Nat.le_refl _) _
  have hVc : V.heap[w.heap.size]? = some (.cells #[.int .i64 m, .int .i64 ph, .int .i64 wh, .slice a3 S.length c3, .slice a4 n4 c4, .slice a5 n5 c5, .slice a6 n6 c6] 30 (0, 0)) := by rw [hV]; exact alloc_at w _
  have hVs : V.heap.size = w.heap.size + 1 := by rw [hV]; simp only [World.size_alloc]
  have hSV : SeenIn V a3 S := hS.mono hVB
  have v0 := cell_at hVc 0
  have v1 := cell_at hVc 1
  have v2 := cell_at hVc 2
  have v3 := cell_at hVc 3
  have v4 := cell_at hVc 4
  have v5 := cell_at hVc 5
  have v6 := cell_at hVc 6
  simp only [List.getElem?_toArray, List.getElem?_cons_zero, List.getElem?_cons_succ] at v0 v1 v2 v3 v4 v5 v6
  go_enter Try.func5, Try.ntmps5
  skip
  go_wp2_with (first
    | (go_at_call 16; rw [← hV]; refine (small_calls V m ph wh a3 c3 S a4 n4 c4 a5 n5 c5 a6 n6 c6 hSV hb hb5).mono ?_; rintro e w1 ⟨⟨r, rfl, hr⟩, hb1⟩)
    | (go_at_call 15; refine (alive_calls _).mono ?_; rintro e w2 ⟨rfl, hb2⟩))
  · go_ret
    exact ⟨rfl, (hVB.trans (hb1.mono (by omega))).trans (hb2.mono (by have := hb1.size; omega))⟩
  have hrr : (!r) = false := by assumption
  obtain rfl : r = true := by cases r <;> simp_all
  obtain ⟨hS60, hS600⟩ := hr rfl
  clear hr hrr hb hb5
  have hwV : Below w.heap.size w w1 := hVB.trans (hb1.mono (by omega))
  have hVl : w.heap.size < w1.heap.size := by have := hb1.size; omega
  have hS1 := hSV.mono hb1
  have v0 := (hb1.cell (p := ⟨w.heap.size, 0, none⟩) (by show w.heap.size < _; omega)).trans v0
  have v3 := (hb1.cell (p := ⟨w.heap.size, 3, none⟩) (by show w.heap.size < _; omega)).trans v3
  clear v1 v2 v4 v5 v6 hVc hSV
  go_loopw [6] (fun i wr => ∃ (k : Nat) (v : Value), k ≤ S.length ∧ i = .int .i64 k ∧ wr.heap[w1.heap.size]? = some (.cells #[.int .i64 1, .int .i64 0, .int .i64 1, v, .slice none 0 0, .slice none 0 0, .slice none 0 0] 30 (0, 0)) ∧ wr.ownsRow (w1.heap.size + 1) 36 8 v k (flatS S noSl k) ∧ Below w1.heap.size w1 wr) (fun i _ => S.length - (intOf i).toNat)
  case atStart => exact ⟨0, _, Nat.zero_le _, rfl, alloc_at w1 _, World.ownsRow_nil _ _ _ _, (Below.refl _ _).alloc (Nat.le_refl _) _⟩
  case round =>
    obtain ⟨k, v, hk, rfl, hbw, hown, hB⟩ := hrel
    have u3 := (hB.cell (p := ⟨w.heap.size, 3, none⟩) hVl).trans v3
    by_cases hlt : k < S.length
    case pos =>
      have hk60 : k ≤ 60 := by omega
      have g1 : (k : Int) < S.length := by omega
      rcases hS1.1 with h0 | ⟨b, off, rfl, hbl, hc⟩
      · rw [h0] at hlt; exact absurd hlt (Nat.not_lt_zero _)
      have cK := (hB.cell (p := ⟨b, off + k * 8 + 1, none⟩) hbl).trans (hc k hlt).1
      have b3 := cell_at hbw 3
      have hsz := hX_lt hbw
      obtain ⟨x3, hvf⟩ : ∃ x : Option Addr × Nat, v = .slice x.1 k x.2 := by
        rcases hown.2 with ⟨rfl, h0⟩ | ⟨g, cap, cur, rfl, _⟩
        · exact ⟨(none, 0), by rw [h0]⟩
        · exact ⟨(_, _), rfl⟩
      subst hvf
      simp only [List.getElem?_toArray, List.getElem?_cons_zero, List.getElem?_cons_succ] at b3
      have hnews := World.news_of_block (alloc_at wr (.cells #[.int .i64 ((k : Int) + 1), .int .i64 (S[k]'hlt).kind, .int .i64 0, .int .i64 0, .slice none 0 0, .int .i64 0, .int .i64 1, .int .i64 0] 36))
      go_wp2_with (at_builtin; refine wpList_append_lies _ rfl _ _ 27 rfl (w1.heap.size + 1) 36 i0 (.agg #[.int .i64 0, .int .i64 0, .int .i64 0, .int .i64 0, .slice none 0 0, .int .i64 0, .int .i64 0, .int .i64 0]) 8 80 Try.underlying27 hi0 hz0 hz1 hz2 rfl (by decide) _ _ _ rfl (hown.alloc _) _ 1 1 [.int .i64 ((k : Int) + 1), .int .i64 (S[k]'hlt).kind, .int .i64 0, .int .i64 0, .slice none 0 0, .int .i64 0, .int .i64 1, .int .i64 0] rfl rfl hnews (fun x hx => by simp at hx; rcases hx with rfl | rfl | rfl | rfl | rfl | rfl | rfl | rfl <;> rfl) (by decide) (by unfold maxLen; omega) (by omega) (by simp only [World.size_alloc]; omega) _ rfl ?_; intro g cap w5 hown5 hgrow5 hat5 hlt5; have hne5 := own_ne hown hbw (by decide); have hbw5 := (hgrow5.block _ (by simp only [World.size_alloc]; omega) hne5.symm).trans ((Below.heap_alloc _ _ _ hsz).trans hbw); have b5 := cell_at hbw5 3; have f5 := frozen_at hbw5 3; simp only [List.getElem?_toArray, List.getElem?_cons_zero, List.getElem?_cons_succ] at b5)
      go_roundw
      case rel =>
        refine ⟨k + 1, (by omega), (by omega), _, set_at hbw5 3 _, ?_, ?_⟩
        · rw [flatS_succ, obG_cells S k hlt (by omega)]
          exact hown5.kept (setCell_grown w5 _ 3 _) (.inr (own_ne hown5 hbw5 (by decide)))
        · exact ((hB.alloc hB.size _).grown hgrow5 (by simp only [World.size_alloc]; have := hB.size; omega) (fun q hq => by have := (hown.lt q hq).1; omega)).setCell (p := ⟨w1.heap.size, 3, none⟩) (Nat.le_refl _) _
      case measure => simp [intOf]; omega
    case neg =>
      obtain rfl : k = S.length := by omega
      have g1 : ¬ ((S.length : Int) < S.length) := by omega
      go_wp2
      obtain ⟨wa, hwa⟩ : ∃ wa, wa = wr := ⟨_, rfl⟩
      subst hwa
      clear u3 g1 hlt hk
      obtain ⟨B, hBB⟩ : ∃ B, w1.heap.size = B := ⟨_, rfl⟩
      rw [hBB] at hbw hown hB hVl ⊢
      go_loopw [8] (fun i wr => ∃ (k : Nat) (sl : Nat → Option Addr × Nat × Nat), k ≤ S.length ∧ i = .int .i64 k ∧ wr.heap[B]? = some (.cells #[.int .i64 1, .int .i64 0, .int .i64 1, v, .slice none 0 0, .slice none 0 0, .slice none 0 0] 30 (0, 0)) ∧ wr.ownsRow (B + 1) 36 8 v S.length (flatS S sl S.length) ∧ Below B w1 wr ∧ (∀ j (h : j < S.length), j < k → FinRow B wr (sl j) ((S[j]'h).vals.map (cleanV S))) ∧ (∀ j, k ≤ j → sl j = (none, 0, 0))) (fun i _ => S.length - (intOf i).toNat)
      case atStart => exact ⟨0, noSl, Nat.zero_le _, rfl, hbw, hown, hB, fun j _ h => absurd h (Nat.not_lt_zero _), fun _ _ => rfl⟩
      case round =>
        obtain ⟨k, sl, hk, rfl, hbw2, hown2, hB2, hfin, hnil⟩ := hrel
        have u3 := (hB2.cell (p := ⟨w.heap.size, 3, none⟩) hVl).trans v3
        by_cases hlt : k < S.length
        case pos =>
          have g1 : (k : Int) < S.length := by omega
          rcases hS1.1 with h0 | ⟨b, off, rfl, hbl, hc⟩
          · rw [h0] at hlt; exact absurd hlt (Nat.not_lt_zero _)
          rw [hBB] at hbl
          obtain ⟨p, hp⟩ : ∃ p, S[k]'hlt = p := ⟨_, rfl⟩
          have hc4 := (hc k hlt).2
          have hp600 := hS600 _ (List.getElem_mem hlt)
          have hsl := (hS1.2 k hlt).1
          rw [hp] at hc4 hp600 hsl
          go_wp2
          obtain ⟨wi, hwi⟩ : ∃ wi, wi = wr := ⟨_, rfl⟩
          subst hwi
          obtain ⟨g, cap, rfl, hg1, hg2⟩ := hown2.form (by omega)
          obtain ⟨cur, hgc⟩ : ∃ cur, wi.heap[g]? = some (.cells cur 36 (0, 0)) := by
            rcases hown2.2 with ⟨h0, _⟩ | ⟨g', cap', cur, h0, _, hh, _⟩
            · cases h0
            · cases h0; exact ⟨cur, hh⟩
          have hbi := hX_lt hbw2
          go_loopw [9] (fun i wx => ∃ (j : Nat) (c : Option Addr × Nat × Nat), j ≤ p.vals.length ∧ i = .int .i64 j ∧ c.2.1 = j ∧ wx.ownsRow wi.heap.size 38 2 (.slice c.1 c.2.1 c.2.2) j (flatV ((p.vals.take j).map (cleanV S))) ∧ wx.ownsRow (B + 1) 36 8 (.slice (some ⟨g, 0, none⟩) S.length cap) S.length (flatS S (upd sl k c) S.length) ∧ wi.grownBy wx (some g)) (fun i _ => p.vals.length - (intOf i).toNat)
          case atStart => exact ⟨0, (none, 0, 0), Nat.zero_le _, rfl, rfl, World.ownsRow_nil _ _ _ _, by rw [← hnil k (Nat.le_refl _), upd_self]; exact hown2, ⟨rfl, rfl, rfl, Nat.le_refl _, fun _ _ _ => rfl⟩⟩
          case round =>
            obtain ⟨j, c, hj, rfl, hcj, hcur, hrow, hG⟩ := hrel
            have hBx : Below B w1 wr := grow_below hG hB2 (by omega) (by omega)
            have hbwx := (hG.block B hbi (fun e => by cases e; omega)).trans hbw2
            have u3 := (hBx.cell (p := ⟨w.heap.size, 3, none⟩) hVl).trans v3
            have q4 := (hBx.cell (p := ⟨b, off + k * 8 + 4, none⟩) hbl).trans hc4
            by_cases hjl : j < p.vals.length
            case neg =>
              obtain rfl : j = p.vals.length := by omega
              have g3 : ¬ ((p.vals.length : Int) < p.vals.length) := by omega
              go_wp2
              go_roundw
              case rel =>
                refine ⟨k + 1, upd sl k c, by omega, by simp, hbwx, hrow, hBx, fun j' h' hj' => ?_, fun j' hj' => by rw [upd_ne _ _ _ _ (by omega)]; exact hnil j' (by omega)⟩
                by_cases hjk : j' = k
                · subst hjk
                  rw [upd_same, hp]
                  rw [List.take_length] at hcur
                  refine ⟨by rw [hcj]; simp, ?_⟩
                  rw [hcj] at hcur
                  simp only [List.length_map]
                  exact World.ownsRow.mono hcur (by omega)
                · rw [upd_ne _ _ _ _ hjk]
                  obtain ⟨f1, f2⟩ := hfin j' h' (by omega)
                  exact ⟨f1, f2.kept hG (.inr (own_ne f2 hgc (by decide)))⟩
              case measure => simp [intOf]; omega
            case pos =>
              obtain ⟨x, hx⟩ : ∃ x, p.vals[j]'hjl = x := ⟨_, rfl⟩
              rcases hsl with h0 | ⟨b2, off2, hsa, hb2l, hcells⟩
              · rw [h0] at hjl; exact absurd hjl (Nat.not_lt_zero _)
              rw [hBB] at hb2l
              obtain ⟨d0, d1⟩ := hcells j hjl
              rw [hx] at d0 d1
              rw [hsa] at q4
              have d0 := (hBx.cell (p := ⟨b2, off2 + j * 2, none⟩) hb2l).trans d0
              have d1 := (hBx.cell (p := ⟨b2, off2 + j * 2 + 1, none⟩) hb2l).trans d1
              have g3 : (j : Int) < p.vals.length := by omega
              have hclean : (p.vals.take (j + 1)).map (cleanV S) = (p.vals.take j).map (cleanV S) ++ [cleanV S x] := by
                rw [List.take_succ_eq_append_getElem hjl, List.map_append, hx]; rfl
              clear hcells
              have hlB := hX_lt hbwx
              have hxB := (Below.heap_alloc wr (.cells #[.int .i64 x.t, .int .i64 x.n] 38) B hlB).trans hbwx
              have e3 := cell_at hxB 3
              simp only [List.getElem?_toArray, List.getElem?_cons_zero, List.getElem?_cons_succ] at e3
              have hgl : g < wr.heap.size := (hrow.lt g rfl).2
              go_upto_region 18 with fail
              go_cut [105] from 49 to 122 (fun s wc => ∃ (bz : Bool) (nq : Nat), s = .bool bz ∧ cleanV S x = (if bz = true then zeroVl else x) ∧ wc = (wr.alloc (.cells #[.int .i64 x.t, .int .i64 x.n] 38)).drewN nq)
              case first =>
                by_cases t1 : x.t < 4
                · have t2 : decide (4 ≤ x.t) = false := by simp; omega
                  have t3 : ¬ (4 ≤ x.t) := by omega
                  have t4 : decide (x.t ≥ 4) = false := by simp; omega
                  have hcl : cleanV S x = x := by unfold cleanV; rw [if_neg (by omega)]
                  go_wp2_with fail
                  go_quiet (fail)
                  go_wp2
                  go_meet
                  case rel => exact ⟨false, nq, rfl, hcl, rfl⟩
                · have t3 : 4 ≤ x.t := by omega
                  by_cases t5 : 9 < x.t
                  · have t6 : decide (x.t ≤ 9) = false := by simp; omega
                    have hcl : cleanV S x = x := by unfold cleanV; rw [if_neg (by omega)]
                    go_wp2_with fail
                    go_quiet (fail)
                    go_wp2
                    go_meet
                    case rel => exact ⟨false, nq, rfl, hcl, rfl⟩
                  · have t6 : x.t ≤ 9 := by omega
                    by_cases n1 : x.n < 1
                    · have hcl : cleanV S x = zeroVl := by unfold cleanV; rw [if_pos ⟨t3, t6, .inl n1⟩]
                      go_wp2_with fail
                      go_quiet (fail)
                      go_wp2
                      go_meet
                      case rel => exact ⟨true, nq, rfl, hcl, rfl⟩
                    · have n2 : decide (x.n < 1) = false := by simp; omega
                      by_cases n3 : (S.length : Int) < x.n
                      · have hcl : cleanV S x = zeroVl := by unfold cleanV; rw [if_pos ⟨t3, t6, .inr (.inl n3)⟩]
                        go_wp2_with fail
                        go_quiet (fail)
                        go_wp2
                        go_meet
                        case rel => exact ⟨true, nq, rfl, hcl, rfl⟩
                      · obtain ⟨q, hq⟩ : ∃ q : Nat, x.n = (q : Int) + 1 := ⟨x.n.toNat - 1, by omega⟩
                        have hql : q < S.length := by omega
                        obtain ⟨xt, xn, xwt, xwn⟩ := x
                        simp only at hq t1 t3 t5 t6 n1 n2 n3 d0 d1
                        subst hq
                        have n4 : decide ((S.length : Int) < (q : Int) + 1) = false := by simp; omega
                        have gq : (q : Int) < S.length := by omega
                        have hkq : (wr.alloc (.cells #[.int .i64 xt, .int .i64 ((q : Int) + 1)] 38)).cell? ⟨g, q * 8 + 1, none⟩ = some (.int .i64 (S.getD q Inp.z).kind) := by
                          refine (((Below.refl _ wr).alloc (Nat.le_refl _) _).cell (p := ⟨g, q * 8 + 1, none⟩) hgl).trans ?_
                          rw [hrow.cellAt (q * 8 + 1) (by omega), flatS_get _ _ _ _ _ hql (by decide)]
                          rfl
                        have hk2 : (S.getD (((q : Int) + 1).toNat - 1) Inp.z).kind = (S.getD q Inp.z).kind := by rw [show ((q : Int) + 1).toNat - 1 = q by omega]
                        generalize hkk : (S.getD q Inp.z).kind = kq at hkq hk2
                        by_cases n5 : kq = xt
                        · subst n5
                          have hcl : cleanV S ⟨kq, (q : Int) + 1, xwt, xwn⟩ = ⟨kq, (q : Int) + 1, xwt, xwn⟩ := by unfold cleanV; rw [if_neg (by simp only; rw [hk2]; omega)]
                          go_wp2_with fail
                          go_quiet (fail)
                          go_wp2
                          go_meet
                          case rel => exact ⟨false, nq, rfl, hcl, rfl⟩
                        · have hcl : cleanV S ⟨xt, (q : Int) + 1, xwt, xwn⟩ = zeroVl := by unfold cleanV; rw [if_pos ⟨t3, t6, .inr (.inr (by simp only; rw [hk2]; exact n5))⟩]
                          go_wp2_with fail
                          go_quiet (fail)
                          go_wp2
                          go_meet
                          case rel => exact ⟨true, nq, by simp [n5], hcl, rfl⟩
              case rest =>
                obtain ⟨bz, nq0, rfl, hbz, rfl⟩ := hcut
                go_upto_if 105 with fail
                go_cut [] from 49 to 122 (fun wc => ∃ (y : Vl) (nq : Nat), y = cleanV S x ∧ wc = (wr.alloc (.cells #[.int .i64 y.t, .int .i64 y.n] 38)).drewN nq)
                case first =>
                  cases bz
                  · simp only [Bool.false_eq_true, if_false] at hbz
                    go_wp2
                    go_meet
                    case rel => exact ⟨x, nq0, hbz.symm, rfl⟩
                  · simp only [if_true] at hbz
                    go_wp2
                    go_meet
                    case rel => exact ⟨zeroVl, nq0, hbz.symm, zero_box _ _ _ _ _ _ _⟩
                case rest =>
                obtain ⟨y, nq, hy, rfl⟩ := hcut
                have hfl : flatV ((p.vals.take (j + 1)).map (cleanV S)) = flatV ((p.vals.take j).map (cleanV S)) ++ [.int .i64 y.t, .int .i64 y.n] := by rw [hclean, flatV_snoc, ← hy]
                clear hy hbz hclean
                have hfl := Aside0.mk hfl
                obtain ⟨Z, hZ⟩ : ∃ Z, (wr.alloc (.cells #[.int .i64 y.t, .int .i64 y.n] 38)).drewN nq = Z := ⟨_, rfl⟩
                have zB : Z.heap[B]? = some (.cells #[.int .i64 1, .int .i64 0, .int .i64 1, .slice (some ⟨g, 0, none⟩) S.length cap, .slice none 0 0, .slice none 0 0, .slice none 0 0] 30 (0, 0)) := by rw [← hZ]; exact (Below.heap_alloc wr (.cells #[.int .i64 y.t, .int .i64 y.n] 38) B hlB).trans hbwx
                have zx : Z.heap[wr.heap.size]? = some (.cells #[.int .i64 y.t, .int .i64 y.n] 38 (0, 0)) := by rw [← hZ]; exact alloc_at wr _
                have zs : Z.heap.size = wr.heap.size + 1 := by rw [← hZ]; exact World.size_alloc wr _
                have zrow : Z.ownsRow (B + 1) 36 8 (.slice (some ⟨g, 0, none⟩) S.length cap) S.length (flatS S (upd sl k c) S.length) := by rw [← hZ]; exact hrow.alloc _
                have zcur : Z.ownsRow wi.heap.size 38 2 (.slice c.1 j c.2.2) j (flatV ((p.vals.take j).map (cleanV S))) := by rw [← hZ]; have := hcur.alloc (.cells #[.int .i64 y.t, .int .i64 y.n] 38); rw [hcj] at this; exact this
                have zG : wi.grownBy Z (some g) := by rw [← hZ]; exact grow_drew (grow_alloc hG _) _
                rw [hZ]
                clear hZ
                have zgl : g < Z.heap.size := (zrow.lt g rfl).2
                have zgw : g < wi.heap.size := hX_lt hgc
                have zse := cell_at zB 3
                simp only [List.getElem?_toArray, List.getElem?_cons_zero, List.getElem?_cons_succ] at zse
                have zsl : Z.cell? ⟨g, k * 8 + 4, none⟩ = some (.slice c.1 j c.2.2) := by
                  rw [zrow.cellAt (k * 8 + 4) (by omega), flatS_get _ _ _ _ _ hlt (by decide), upd_same]
                  show some (Value.slice c.1 c.2.1 c.2.2) = _
                  rw [hcj]
                have zx0 := cell_at zx 0
                have zx1 := cell_at zx 1
                simp only [List.getElem?_toArray, List.getElem?_cons_zero, List.getElem?_cons_succ] at zx0 zx1
                have zA : ∀ o, Below Z.heap.size Z (Z.alloc o) := fun o => (Below.refl _ Z).alloc (Nat.le_refl _) o
                have ase : ∀ o, (Z.alloc o).cell? ⟨B, 3, none⟩ = _ := fun o => ((zA o).cell (p := ⟨B, 3, none⟩) (hX_lt zB)).trans zse
                have asl : ∀ o, (Z.alloc o).cell? ⟨g, k * 8 + 4, none⟩ = _ := fun o => ((zA o).cell (p := ⟨g, k * 8 + 4, none⟩) zgl).trans zsl
                have ax0 : ∀ o, (Z.alloc o).cell? ⟨wr.heap.size, 0, none⟩ = _ := fun o => ((zA o).cell (p := ⟨wr.heap.size, 0, none⟩) (hX_lt zx)).trans zx0
                have ax1 : ∀ o, (Z.alloc o).cell? ⟨wr.heap.size, 1, none⟩ = _ := fun o => ((zA o).cell (p := ⟨wr.heap.size, 1, none⟩) (hX_lt zx)).trans zx1
                have hnews := World.news_of_block (alloc_at Z (.cells #[.int .i64 y.t, .int .i64 y.n] 38))
                rw [zs] at hnews
                have zwi : wi.heap.size ≤ Z.heap.size := zG.size
                have zkb : ∀ (w5 : World), (Z.alloc (.cells #[.int .i64 y.t, .int .i64 y.n] 38)).grownBy w5 (Value.slice c.1 j c.2.2).ownBlock → w5.ownsRow (B + 1) 36 8 (.slice (some ⟨g, 0, none⟩) S.length cap) S.length (flatS S (upd sl k c) S.length) ∧ w5.cell? ⟨B, 3, none⟩ = some (.slice (some ⟨g, 0, none⟩) S.length cap) ∧ (∃ v, w5.cell? ⟨g, k * 8 + 4, none⟩ = some v) ∧ w5.frozen? ⟨g, k * 8 + 4, none⟩ = false ∧ wi.grownBy w5 (some g) := by
                  intro w5 hg5
                  have hr5 : w5.ownsRow (B + 1) 36 8 (.slice (some ⟨g, 0, none⟩) S.length cap) S.length (flatS S (upd sl k c) S.length) := (zrow.alloc _).kept hg5 (.inr (fun e => by have := (zcur.lt g (by rw [← e]; rfl)).1; omega))
                  refine ⟨hr5, ?_, ?_, hr5.frozenAt _, grow_on (grow_alloc zG _) hg5 (fun r e => (zcur.lt r e).1)⟩
                  · exact (hg5.cell_far ⟨B, 3, none⟩ (by have := hX_lt zB; simp only [World.size_alloc]; omega) (fun e => by have := (zcur.lt B e.symm).1; omega)).trans (ase _)
                  · exact ⟨_, (hr5.cellAt (k * 8 + 4) (by omega)).trans (flatS_get _ _ _ _ _ hlt (by decide))⟩
                go_wp2
                go_region_law (refine step_append_lies _ rfl _ _ 32 rfl (wi.heap.size) 38 i1 (.agg #[.int .i64 0, .int .i64 0]) 2 16 Try.underlying32 hi1 hz3 hz4 hz5 rfl (by decide) _ _ _ rfl (zcur.alloc _) _ 1 1 [.int .i64 y.t, .int .i64 y.n] rfl rfl hnews (fun x hx => by simp at hx; rcases hx with rfl | rfl <;> rfl) (by decide) (by unfold maxLen; omega) (by omega) (by simp; omega) _ rfl ?_; intro g5 cap5 w5 hown5 hgrow5 hat5 hlt5; have hg6 : (Z.alloc (.cells #[.int .i64 y.t, .int .i64 y.n] 38)).grownBy w5 (Value.slice c.1 j c.2.2).ownBlock := ⟨hgrow5.os, hgrow5.tape, hgrow5.output, hgrow5.size, hgrow5.block⟩; obtain ⟨k1, k2, ⟨v9, k3⟩, k4, k5⟩ := zkb _ hg6; have m1 := hown5.kept (setCell_grown w5 g (k * 8 + 4) (.slice (some ⟨g5, 0, none⟩) (j + 1) cap5)) (.inr (fun e => by have h8 := (hown5.lt g5 rfl).1; have h9 : g5 = g := Option.some.inj (show some g5 = some g from e); omega)); have m2 := (k1.stored (k * 8 + 4) (.slice (some ⟨g5, 0, none⟩) (j + 1) cap5)).1; have m3 := k5.trans (k1.stored (k * 8 + 4) (.slice (some ⟨g5, 0, none⟩) (j + 1) cap5)).2)
                all_goals
                  go_wp2
                  go_roundw
                  case rel => exact ⟨j + 1, (some ⟨_, 0, none⟩, j + 1, _), by omega, by simp, rfl, by first | exact m1 | (rw [hfl.out]; exact m1), by rw [← upd_upd sl k c, flatS_set _ _ _ _ _ hlt]; exact m2, ⟨m3.os, m3.tape, m3.output, m3.size, m3.block⟩⟩
                  case measure => simp [intOf]; omega

        case neg =>
          obtain rfl : k = S.length := by omega
          have g1 : ¬ ((S.length : Int) < S.length) := by omega
          have b0 := cell_at hbw2 0
          have b1 := cell_at hbw2 1
          have b2 := cell_at hbw2 2
          have b3 := cell_at hbw2 3
          have b4 := cell_at hbw2 4
          have b5 := cell_at hbw2 5
          have b6 := cell_at hbw2 6
          obtain ⟨x3, hvf⟩ : ∃ x : Option Addr × Nat, v = .slice x.1 S.length x.2 := by
            rcases hown2.2 with ⟨rfl, h0⟩ | ⟨g, cap, cur, rfl, _⟩
            · exact ⟨(none, 0), by rw [h0]⟩
            · exact ⟨(_, _), rfl⟩
          subst hvf
          simp only [List.getElem?_toArray, List.getElem?_cons_zero, List.getElem?_cons_succ] at b0 b1 b2 b3 b4 b5 b6
          have hau := fresh_gen_audit wr S sl x3.1 x3.2 hS60 hS600 hown2 (fun j hj => hfin j hj hj)
          go_wp2_with (first
            | (go_at_call 17; refine hau.mono ?_; rintro e w6 ⟨⟨x6, c6, rfl⟩, hb6⟩)
            | (go_at_call 15; refine (alive_calls _).mono ?_; rintro e w7 ⟨rfl, hb7⟩))
          go_ret
          exact ⟨rfl, ((hwV.trans (hB2.mono (by omega))).trans (hb6.mono (by have := hB2.size; omega))).trans (hb7.mono (by have := hB2.size; have := hb6.size; omega))⟩

end Go.Proofs.Ytpdhmfbpmbbmgaa.Mp
