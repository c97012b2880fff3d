/- A live object leads to no dead one, but in what is cleared: the plain law. For every graph. -/
import Derived.Test.YtollnnbcfhnlfaaGA
import Derived.Test.YtollnnbcfhnlfaaQRx16
set_option linter.unusedVariables false
set_option linter.unusedSimpArgs false
namespace Go.Proofs.Ytollnnbcfhnlfaa.Pure
open Go Go.RowKit Go.Proofs.Ytollnnbcfhnlfaa.QR Go.Proofs.Ytollnnbcfhnlfaa.Rg Go.Proofs.Ytollnnbcfhnlfaa.Jg Go.Proofs.YtollnnbcfhnlfaaW.PrintWords Go.Proofs.YtollnnbcfhnlfaaW.PrintLast Go.Proofs.YtollnnbcfhnlfaaW.PrintMore
theorem collect_ex (th : List S43) (rt : List S40) (hb : bnd th rt = true) : ∃ first live, reach_Collect.f th rt = some (live, pendF th first, clearedF th live first) ∧ strongC th rt [] = some first ∧ StrongR th rt [] first ∧ StrongR th rt (pendF th first) live := by
  obtain ⟨first, h1, h2⟩ := strongC_ex th rt []
  obtain ⟨live, h3, h4⟩ := strongC_ex th rt (pendF th first)
  refine ⟨first, live, ?_, h1, h2, h4⟩
  unfold reach_Collect.f
  rw [if_pos hb, h1, Option.bind_some, h3, Option.bind_some]
theorem cleared_l0 (a : List Bool) (b : List Int) (cl : List S49) (h s : Int) (hl : cl.length ≤ 1000000000) : ∀ (d i k : Nat), cl.length - i = d → i ≤ cl.length → d < k → ∃ r, heirloomlaw11_cleared.l0 k h s (i : Int) a b cl = some r ∧ (r = true ↔ (⟨h, s⟩ : S49) ∈ cl.drop i)
  | d, i, 0, _, _, hk => by omega
  | d, i, k + 1, hd, hi, hk => by
    rw [heirloomlaw11_cleared.l0]
    by_cases c : i < cl.length
    · obtain ⟨r, ih, ihr⟩ := cleared_l0 a b cl h s hl (d - 1) (i + 1) k (by omega) (by omega) (by omega)
      have hr : rd_T49 cl (i : Int) = cl[i] := by
        unfold rd_T49
        rw [Int.toNat_natCast, List.getD_eq_getElem?_getD, List.getElem?_eq_getElem c]
        rfl
      rw [if_pos (by omega), if_pos (by omega), hr, w64 (by omega) (by omega), List.drop_eq_getElem_cons c]
      by_cases e : cl[i].f0 = h ∧ cl[i].f1 = s
      · rw [if_pos (by rw [Bool.and_eq_true, beq_iff_eq, beq_iff_eq]; exact e)]
        refine ⟨true, rfl, iff_of_true rfl (List.mem_cons.2 (.inl ?_))⟩
        obtain ⟨e0, e1⟩ := e
        subst e0; subst e1
        rfl
      · rw [if_neg (by rw [Bool.and_eq_true, beq_iff_eq, beq_iff_eq]; exact e)]
        refine ⟨r, ih, ihr.trans ⟨fun z => List.mem_cons.2 (.inr z), fun z => (List.mem_cons.1 z).resolve_left (fun y => ?_)⟩⟩
        rw [← y] at e
        exact e ⟨rfl, rfl⟩
    · rw [if_neg (by omega), List.drop_eq_nil_of_le (by omega)]
      exact ⟨false, rfl, by simp⟩
theorem cleared_f (a : List Bool) (b : List Int) (cl : List S49) (h s : Int) (hl : cl.length ≤ 1000000000) (k : Nat) (hk : cl.length < k) : ∃ r, heirloomlaw11_cleared.f k a b cl h s = some r ∧ (r = true ↔ (⟨h, s⟩ : S49) ∈ cl) := by
  obtain ⟨r, h1, h2⟩ := cleared_l0 a b cl h s hl cl.length 0 k rfl (by omega) hk
  exact ⟨r, h1, by rw [h2, List.drop_zero]⟩
theorem not_nd {l : List Bool} {o : Int} (h0 : 0 < o) (h : ¬ Nd l o) : rdOf false l (o - 1) = false := by
  by_cases hq : rdOf false l (o - 1) = true
  · exact absurd ⟨by omega, hq⟩ h
  · simpa using hq
theorem closed_slot {th : List S43} {live first : List Bool} (hC : Closed th (Nd live)) {x : Int} (hx : Nd live x) (hxl : x ≤ th.length) {i : Nat} (hi : i < (rd_T43 th (x - 1)).f3.length) {o : Int} (ho : Rg.Obj th (rd_T40 (rd_T43 th (x - 1)).f3 i) o) (hd : ¬ Nd live o) :
    0 < (rd_T43 th (x - 1)).f1 ∧ ((⟨x, i⟩ : S49) ∈ clearedF th live first ∨ ((⟨x, (i : Int) + 1⟩ : S49) ∈ clearedF th live first ∧ keyF (rd_T43 th (x - 1)).f3.length (rd_T43 th (x - 1)).f2 ((i : Int) + 1) = i)) := by
  have nl : ¬ LeadD th (Nd live) x o := fun z => hd (hC x hx o z)
  have hx1 := hx.1
  have hw0 : wk th x ≠ 0 := by
    intro hw
    refine nl ?_
    unfold LeadD
    rw [if_pos hw]
    exact ⟨_, by rw [rd40_get hi]; exact List.getElem_mem _, ho⟩
  have nl2 := nl
  unfold LeadD at nl2
  rw [if_neg hw0] at nl2
  have nq : ∀ q ∈ slotsL (rd_T43 th (x - 1)).f3.length (rd_T43 th (x - 1)).f2, ¬ StepD th (wk th x) (rd_T43 th (x - 1)).f3 (Nd live) q o := fun q hq z => nl2 (.inr ⟨q, hq, z⟩)
  have hi0 : i ≠ 0 := by
    rintro rfl
    exact nl2 (.inl ⟨by omega, ho⟩)
  refine ⟨?_, ?_⟩
  · have h := hw0
    unfold wk weakF at h
    split at h
    · exact absurd rfl h
    · omega
  · have mem : ∀ q ∈ slotsL (rd_T43 th (x - 1)).f3.length (rd_T43 th (x - 1)).f2, goneF th live first (x - 1) (wk th x) (rd_T43 th (x - 1)).f3 q.1 q.2 = true → (⟨x, q.2⟩ : S49) ∈ clearedF th live first := fun q hq hg => by
      have ex : ((x - 1).toNat : Int) = x - 1 := by omega
      refine (mem_cleared th live first _).2 ⟨(x - 1).toNat, by omega, ?_⟩
      rw [ex]
      refine ⟨⟨hx.2, hw0⟩, q, hq, hg, ?_⟩
      rw [Int.sub_add_cancel]
    have second : ∀ q ∈ slotsL (rd_T43 th (x - 1)).f3.length (rd_T43 th (x - 1)).f2, 0 ≤ q.1 → wk th x ≠ 2 → weaklyF th (rd_T40 (rd_T43 th (x - 1)).f3 q.1).f0 (rd_T40 (rd_T43 th (x - 1)).f3 q.1).f1 = true → ¬ Nd live (objF th (rd_T40 (rd_T43 th (x - 1)).f3 q.1).f0 (rd_T40 (rd_T43 th (x - 1)).f3 q.1).f1) → (⟨x, q.2⟩ : S49) ∈ clearedF th live first := fun q hq h0 h2 hwk hn => by
      refine mem q hq ?_
      have hp : 0 < objF th (rd_T40 (rd_T43 th (x - 1)).f3 q.1).f0 (rd_T40 (rd_T43 th (x - 1)).f3 q.1).f1 := by
        unfold weaklyF at hwk
        simp only [Bool.and_eq_true, decide_eq_true_eq] at hwk
        exact hwk.2
      unfold goneF
      rw [hwk, not_nd hp hn, decide_eq_true h0, show (wk th x != 2) = true from bne_iff_ne.mpr h2]
      simp
    obtain ⟨q, hq, hc⟩ := slots_cover (rd_T43 th (x - 1)).f3.length (rd_T43 th (x - 1)).f2 i (by omega) hi
    have nqq := nq q hq
    have bd := slots_bd _ _ hq
    rcases hc with e | ⟨e1, e2, e3⟩
    · left
      rw [← e] at ho ⊢
      have firstp : wk th x ≠ 1 → (rd_T40 (rd_T43 th (x - 1)).f3 q.2).f0 ≠ 4 → (⟨x, q.2⟩ : S49) ∈ clearedF th live first := fun h1 h4 => by
        refine mem q hq ?_
        have hwk : weaklyF th (rd_T40 (rd_T43 th (x - 1)).f3 q.2).f0 (rd_T40 (rd_T43 th (x - 1)).f3 q.2).f1 = true := by
          unfold weaklyF
          rw [decide_eq_true ho.1, show ((rd_T40 (rd_T43 th (x - 1)).f3 q.2).f0 != 4) = true from bne_iff_ne.mpr h4]
          rfl
        unfold goneF
        rw [hwk, show rdOf false live (objF th (rd_T40 (rd_T43 th (x - 1)).f3 q.2).f0 (rd_T40 (rd_T43 th (x - 1)).f3 q.2).f1 - 1) = false from not_nd ho.1 (by rw [← ho.2]; exact hd), show (wk th x != 1) = true from bne_iff_ne.mpr h1]
        simp
      unfold StepD at nqq
      by_cases h1 : wk th x = 1
      · rw [if_pos h1] at nqq
        by_cases hk : q.1 < 0
        · rw [if_pos hk] at nqq
          exact absurd ho nqq
        · rw [if_neg hk] at nqq
          have ng : ¬ (weaklyF th (rd_T40 (rd_T43 th (x - 1)).f3 q.1).f0 (rd_T40 (rd_T43 th (x - 1)).f3 q.1).f1 = false ∨ Nd live (objF th (rd_T40 (rd_T43 th (x - 1)).f3 q.1).f0 (rd_T40 (rd_T43 th (x - 1)).f3 q.1).f1)) := fun z => nqq ⟨z, .inr ho⟩
          exact second q hq (by omega) (by omega) (by by_cases z : weaklyF th (rd_T40 (rd_T43 th (x - 1)).f3 q.1).f0 (rd_T40 (rd_T43 th (x - 1)).f3 q.1).f1 = false; exact absurd (.inl z) ng; simpa using z) (fun z => ng (.inr z))
      · rw [if_neg h1] at nqq
        refine firstp h1 (fun h4 => ?_)
        split at nqq
        · exact nqq (.inr ⟨h4, ho⟩)
        · exact nqq (.inr ⟨h4, ho⟩)
    · right
      rw [← e1] at ho
      refine ⟨?_, e3⟩
      rw [← e2]
      unfold StepD at nqq
      by_cases h1 : wk th x = 1
      · rw [if_pos h1, if_neg (by omega)] at nqq
        have ng : ¬ (weaklyF th (rd_T40 (rd_T43 th (x - 1)).f3 q.1).f0 (rd_T40 (rd_T43 th (x - 1)).f3 q.1).f1 = false ∨ Nd live (objF th (rd_T40 (rd_T43 th (x - 1)).f3 q.1).f0 (rd_T40 (rd_T43 th (x - 1)).f3 q.1).f1)) := fun z => nqq ⟨z, .inl ho⟩
        exact second q hq (by omega) (by omega) (by by_cases z : weaklyF th (rd_T40 (rd_T43 th (x - 1)).f3 q.1).f0 (rd_T40 (rd_T43 th (x - 1)).f3 q.1).f1 = false; exact absurd (.inl z) ng; simpa using z) (fun z => ng (.inr z))
      · rw [if_neg h1] at nqq
        by_cases h2 : wk th x = 2
        · rw [if_pos ⟨h2, by omega⟩] at nqq
          exact absurd (.inl ho) nqq
        · rw [if_neg (fun z => h2 z.1)] at nqq
          have h4 : (rd_T40 (rd_T43 th (x - 1)).f3 q.1).f0 ≠ 4 := fun h4 => nqq (.inl ⟨by omega, h4, ho⟩)
          refine second q hq (by omega) h2 ?_ (by rw [← ho.2]; exact hd)
          unfold weaklyF
          rw [decide_eq_true ho.1, show ((rd_T40 (rd_T43 th (x - 1)).f3 q.1).f0 != 4) = true from bne_iff_ne.mpr h4]
          rfl
theorem cleared_len (th : List S43) (live first : List Bool) (hsl : ∀ t ∈ th, t.f3.length ≤ 1000) : (clearedF th live first).length ≤ 1000 * th.length := by
  have key : ∀ j, j ≤ th.length → ((List.range j).foldl (clear1 th live first) []).length ≤ 1000 * j := by
    intro j
    induction j with
    | zero => intro _; simp
    | succ j ih =>
      intro hj
      have h1 := ih (by omega)
      have h2 := clear1_len th live first ((List.range j).foldl (clear1 th live first) []) j (by omega) hsl
      rw [List.range_succ, List.foldl_append]
      show (clear1 th live first ((List.range j).foldl (clear1 th live first) []) j).length ≤ _
      omega
  exact key th.length (Nat.le_refl _)
theorem closed_l1 (th : List S43) (rt : List S40) (first live : List Bool) (pend : List Int) (hl : th.length ≤ 1000) (hsl : ∀ t ∈ th, t.f3.length ≤ 1000) (h2 : live.length = th.length) (hC : Closed th (Nd live)) (h : Nat) (hh : h < th.length) (B : Nat) (hB : (clearedF th live first).length + 10 ≤ B)
    (K : Nat) (H : ∀ k, K ≤ k → heirloomlaw11_ReachClosed.l0 k ((h : Int) + 1) th rt live pend (clearedF th live first) = some true) :
    ∀ (d i k : Nat), (rd_T43 th h).f3.length - i = d → i ≤ (rd_T43 th h).f3.length → K + B + 2 * d + 2 ≤ k → heirloomlaw11_ReachClosed.l1 k (h : Int) (i : Int) th rt live pend (clearedF th live first) (rd_T43 th h).f0 (rd_T43 th h).f1 (rd_T43 th h).f2 (rd_T43 th h).f3 (rd_T43 th h).f4 = some true
  | d, i, 0, _, _, hk => by omega
  | d, i, 1, _, _, hk => by omega
  | d, i, k + 2, hd, hi, hk => by
    have htl : (rd_T43 th h).f3.length ≤ 1000 := hsl _ (by rw [rd43_get hh]; exact List.getElem_mem _)
    have hcl := cleared_len th live first hsl
    have out : heirloomlaw11_ReachClosed.j3 (k + 1) (h : Int) (i : Int) false th rt live pend (clearedF th live first) (rd_T43 th h).f0 (rd_T43 th h).f1 (rd_T43 th h).f2 (rd_T43 th h).f3 (rd_T43 th h).f4 = some true := by
      rw [heirloomlaw11_ReachClosed.j3, if_neg (by decide), w64 (by omega) (by omega)]
      exact H k (by omega)
    rw [heirloomlaw11_ReachClosed.l1, if_pos (by omega), if_pos (by omega)]
    by_cases hlv : rdOf false live (h : Int) = true
    · rw [if_pos hlv]
      by_cases c : i < (rd_T43 th h).f3.length
      · have ih := closed_l1 th rt first live pend hl hsl h2 hC h hh B hB K H (d - 1) (i + 1) k (by omega) (by omega) (by omega)
        have ih' : heirloomlaw11_ReachClosed.l1 k (h : Int) ((i : Int) + 1) th rt live pend (clearedF th live first) (rd_T43 th h).f0 (rd_T43 th h).f1 (rd_T43 th h).f2 (rd_T43 th h).f3 (rd_T43 th h).f4 = some true := ih
        rw [decide_eq_true (show (i : Int) < ((rd_T43 th h).f3.length : Int) by omega), heirloomlaw11_ReachClosed.j3, if_pos rfl, if_pos (by omega), if_pos (by omega), robj th rt (by omega) _ _ k (by omega), Option.bind_some, w64 (x := (i : Int) + 1) (by omega) (by omega)]
        have obd := obj_bd th (rd_T40 (rd_T43 th h).f3 i).f0 (rd_T40 (rd_T43 th h).f3 i).f1
        obtain ⟨o, ho⟩ : ∃ o, objF th (rd_T40 (rd_T43 th h).f3 i).f0 (rd_T40 (rd_T43 th h).f3 i).f1 = o := ⟨_, rfl⟩
        rw [ho] at obd ⊢
        by_cases c2 : o > 0
        · rw [if_pos c2, w64 (x := o - 1) (by omega) (by omega), if_pos (by omega), if_pos (by omega)]
          by_cases c3 : rdOf false live (o - 1) = true
          · rw [if_pos c3]; exact ih'
          · rw [if_neg c3, w64 (x := (h : Int) + 1) (by omega) (by omega)]
            have hx : Nd live ((h : Int) + 1) := ⟨by omega, by rw [Int.add_sub_cancel]; exact hlv⟩
            have key := closed_slot (first := first) hC hx (by omega) (i := i) (by rw [Int.add_sub_cancel]; exact c) (o := o) (by rw [Int.add_sub_cancel]; exact ⟨by omega, ho.symm⟩) (fun z => c3 z.2)
            rw [Int.add_sub_cancel] at key
            obtain ⟨kw, kc⟩ := key
            obtain ⟨r1, e1, m1⟩ := cleared_f live pend (clearedF th live first) ((h : Int) + 1) (i : Int) (by omega) k (by omega)
            rw [e1, Option.bind_some]
            by_cases c4 : r1 = true
            · rw [if_pos c4]; exact ih'
            · rw [if_neg c4, if_pos (by omega)]
              obtain ⟨kc1, kc2⟩ := kc.resolve_left (fun z => c4 (m1.2 z))
              obtain ⟨r2, e2, m2⟩ := cleared_f live pend (clearedF th live first) ((h : Int) + 1) ((i : Int) + 1) (by omega) k (by omega)
              rw [e2, Option.bind_some, if_pos (m2.2 kc1), keyof_f _ _ _ _ _ _ (by omega) k (by omega), Option.bind_some, if_pos kc2]
              exact ih'
        · rw [if_neg c2]; exact ih'
      · rw [decide_eq_false (show ¬ (i : Int) < ((rd_T43 th h).f3.length : Int) by omega)]
        exact out
    · rw [if_neg hlv]
      exact out
theorem closed_l2 (th : List S43) (rt : List S40) (live : List Bool) (pend : List Int) (cl : List S49) (hl : th.length ≤ 1000) (hr : rt.length ≤ 1000) (h2 : live.length = th.length) (hR : ∀ v ∈ rt, ∀ o, Rg.Obj th v o → Nd live o) :
    ∀ (d i k : Nat), rt.length - i = d → i ≤ rt.length → d + 1 < k → heirloomlaw11_ReachClosed.l2 k (i : Int) th rt live pend cl = some true
  | d, i, 0, _, _, hk => by omega
  | d, i, k + 1, hd, hi, hk => by
    rw [heirloomlaw11_ReachClosed.l2]
    by_cases c : i < rt.length
    · have ih := closed_l2 th rt live pend cl hl hr h2 hR (d - 1) (i + 1) k (by omega) (by omega) (by omega)
      have ih' : heirloomlaw11_ReachClosed.l2 k ((i : Int) + 1) th rt live pend cl = some true := ih
      rw [if_pos (by omega), if_pos (by omega), robj th rt (by omega) _ _ k (by omega), Option.bind_some, w64 (x := (i : Int) + 1) (by omega) (by omega)]
      have obd := obj_bd th (rd_T40 rt i).f0 (rd_T40 rt i).f1
      obtain ⟨o, ho⟩ : ∃ o, objF th (rd_T40 rt i).f0 (rd_T40 rt i).f1 = o := ⟨_, rfl⟩
      rw [ho] at obd ⊢
      by_cases c2 : o > 0
      · have := hR (rd_T40 rt i) (by rw [rd40_get c]; exact List.getElem_mem _) o ⟨by omega, ho.symm⟩
        rw [if_pos c2, w64 (x := o - 1) (by omega) (by omega), if_pos (by omega), if_pos (by omega), if_pos this.2]
        exact ih'
      · rw [if_neg c2]; exact ih'
    · rw [if_neg (by omega), alive_f]
      rfl
theorem closed_l0 (th : List S43) (rt : List S40) (first live : List Bool) (pend : List Int) (hl : th.length ≤ 1000) (hr : rt.length ≤ 1000) (hsl : ∀ t ∈ th, t.f3.length ≤ 1000) (h2 : live.length = th.length) (hC : Closed th (Nd live)) (hR : ∀ v ∈ rt, ∀ o, Rg.Obj th v o → Nd live o) :
    ∀ (d i : Nat), th.length - i = d → i ≤ th.length → ∃ K, ∀ k, K ≤ k → heirloomlaw11_ReachClosed.l0 k (i : Int) th rt live pend (clearedF th live first) = some true
  | d, i, hd, hi => by
    by_cases c : i < th.length
    · obtain ⟨K, H⟩ := closed_l0 th rt first live pend hl hr hsl h2 hC hR (d - 1) (i + 1) (by omega) (by omega)
      refine ⟨K + ((clearedF th live first).length + 10) + 2 * (rd_T43 th i).f3.length + 3, fun k hk => ?_⟩
      obtain ⟨k, rfl⟩ : ∃ j, k = j + 1 := ⟨k - 1, by omega⟩
      rw [heirloomlaw11_ReachClosed.l0, if_pos (by omega), if_pos (by omega)]
      exact closed_l1 th rt first live pend hl hsl h2 hC i c _ (Nat.le_refl _) K H (rd_T43 th i).f3.length 0 k rfl (by omega) (by omega)
    · refine ⟨rt.length + 5, fun k hk => ?_⟩
      obtain ⟨k, rfl⟩ : ∃ j, k = j + 1 := ⟨k - 1, by omega⟩
      rw [heirloomlaw11_ReachClosed.l0, if_neg (by omega)]
      exact closed_l2 th rt live pend _ hl hr h2 hR rt.length 0 k rfl (by omega) (by omega)
theorem ReachClosed (th : List S43) (rt : List S40) (hz : Sz th rt) : ∃ k, heirloomlaw11_ReachClosed.f k th rt = some true := by
  have al : ∀ k, heirloomlaw11_ReachClosed.j0 (k + 1) true th rt = some true := fun k => by
    rw [heirloomlaw11_ReachClosed.j0, if_pos rfl, alive_f]; rfl
  rcases hs : smallB th rt with _ | _
  · refine ⟨100, ?_⟩
    unfold heirloomlaw11_ReachClosed.f
    rw [small_f th rt hz 100 (by omega), hs, Option.bind_some, if_neg (by decide)]
    exact al 99
  · obtain ⟨b1, b2, b3⟩ := small_bnd hs
    have hb := bnd_mk b1 b2 (show rt.length ≤ 601 by omega)
    have hsl : ∀ t ∈ th, t.f3.length ≤ 1000 := fun t ht => by have := b2 t ht; omega
    obtain ⟨K, HR⟩ := rright th rt (by omega) hsl (by omega)
    rcases hrc : rightC th rt with _ | _
    · refine ⟨K + 100, ?_⟩
      unfold heirloomlaw11_ReachClosed.f
      rw [small_f th rt hz _ (by omega), hs, Option.bind_some, if_pos rfl, HR _ (by omega), hrc, Option.bind_some]
      exact al _
    · obtain ⟨first, live, e1, e2, h1, h2⟩ := collect_ex th rt hb
      have l2 := h2.len
      obtain ⟨_, rootL, clo, _⟩ := strong_char h2
      obtain ⟨K2, H2⟩ := closed_l0 th rt first live (pendF th first) (by omega) (by omega) hsl l2 clo (fun v hv o ho => rootL o (.inl ⟨v, hv, ho⟩)) th.length 0 rfl (by omega)
      refine ⟨K + K2 + 100, ?_⟩
      unfold heirloomlaw11_ReachClosed.f
      rw [small_f th rt hz _ (by omega), hs, Option.bind_some, if_pos rfl, HR _ (by omega), hrc, Option.bind_some]
      show heirloomlaw11_ReachClosed.j0 (K + K2 + 99 + 1) false th rt = some true
      rw [heirloomlaw11_ReachClosed.j0, if_neg (by decide), e1, Option.bind_some]
      dsimp only
      rw [if_pos (by omega)]
      exact H2 _ (by omega)
end Go.Proofs.Ytollnnbcfhnlfaa.Pure
