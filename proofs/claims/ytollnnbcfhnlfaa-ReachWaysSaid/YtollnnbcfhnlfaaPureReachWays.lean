/- Where no table holds anything weakly an object is needed just if some way of slots leads to it from a root: the plain law. For every graph. -/
import Derived.Test.YtollnnbcfhnlfaaG9
import Derived.Test.YtollnnbcfhnlfaaQRxZ
set_option linter.unusedVariables false
set_option linter.unusedSimpArgs false
namespace Go.Proofs.Ytollnnbcfhnlfaa.Pure
open Go Go.RowKit Go.Proofs.Ytollnnbcfhnlfaa.QR Go.Proofs.Ytollnnbcfhnlfaa.Rg Go.Proofs.Ytollnnbcfhnlfaa.Jg Go.Proofs.YtollnnbcfhnlfaaW.PrintWords Go.Proofs.YtollnnbcfhnlfaaW.PrintLast Go.Proofs.YtollnnbcfhnlfaaW.PrintMore
/-- how far an object is away, as told so far -/
def fr (far : List Int) (x : Int) : Int := rd far (x - 1)
def markF (th : List S43) (far : List Int) (t n d : Int) : List Int := if 0 < objF th t n ∧ fr far (objF th t n) = 0 then far.set (objF th t n - 1).toNat d else far
theorem obj_rng {th : List S43} {v : S40} {o : Int} (h : Rg.Obj th v o) : 1 ≤ o ∧ o ≤ th.length := by
  obtain ⟨h1, h2⟩ := h
  unfold objF at h1 h2
  split at h2
  · rename_i c; rw [if_pos c] at h1; omega
  · rename_i c; omega
theorem fr_set {far : List Int} {o x d : Int} (hx : 1 ≤ x) (ho : 1 ≤ o) (hl : o ≤ far.length) : fr (far.set (o - 1).toNat d) x = if x = o then d else fr far x := by
  unfold fr rd
  rw [List.getD_eq_getElem?_getD, List.getElem?_set]
  by_cases c : x = o
  · subst c
    rw [if_pos rfl, if_pos (by omega), if_pos rfl]
    rfl
  · rw [if_neg (by omega), if_neg c, List.getD_eq_getElem?_getD]
theorem mark_f (th : List S43) (rt : List S40) (far : List Int) (t n d : Int) (hl : far.length = th.length) (hs : th.length ≤ 60) : heirloomlaw11_mark.f th rt t n far d = some (markF th far t n d) := by
  unfold heirloomlaw11_mark.f
  by_cases c : t < 4 ∨ 9 < t ∨ n < 1 ∨ (th.length : Int) < n ∨ (rd_T43 th (n - 1)).f0 ≠ t
  · have e : objF th t n = 0 := if_pos c
    have e2 : markF th far t n d = far := by unfold markF; rw [if_neg (by rw [e]; omega)]
    rw [e2]
    by_cases c1 : t ≥ 4
    · rw [if_pos c1]
      by_cases c2 : t ≤ 9
      · rw [if_pos c2]
        by_cases c3 : n ≥ 1
        · rw [if_pos c3]
          by_cases c4 : n ≤ (far.length : Int)
          · rw [if_pos c4, w64 (by omega) (by omega), if_pos (by omega), if_pos (by omega), if_neg (fun z => by rcases c with c | c | c | c | c <;> first | omega | exact c z)]
          · rw [if_neg c4]
        · rw [if_neg c3]
      · rw [if_neg c2]
    · rw [if_neg c1]
  · have e : objF th t n = n := if_neg c
    have c5 : (rd_T43 th (n - 1)).f0 = t := Classical.not_not.1 (fun z => c (.inr (.inr (.inr (.inr z)))))
    have c1 : 4 ≤ t := by omega
    have c2 : t ≤ 9 := by omega
    have c3 : 1 ≤ n := by omega
    have c4 : n ≤ th.length := by omega
    clear c
    rw [if_pos c1, if_pos c2, if_pos c3, if_pos (by omega), w64 (by omega) (by omega), if_pos (by omega), if_pos (by omega), if_pos c5, if_pos (by omega)]
    unfold markF fr
    rw [e]
    by_cases c6 : rd far (n - 1) = 0
    · rw [if_pos c6, if_pos ⟨by omega, c6⟩]
    · rw [if_neg c6, if_neg (fun z => c6 z.2)]
structure Wv (th : List S43) (N : Int → Prop) (R0 : List S40) (D B : Int) (far : List Int) : Prop where
  len : far.length = th.length
  bd : ∀ x : Int, 1 ≤ x → x ≤ th.length → 0 ≤ fr far x ∧ fr far x ≤ B
  snd : ∀ x : Int, 1 ≤ x → x ≤ th.length → fr far x ≠ 0 → N x
  clo : ∀ x : Int, 1 ≤ x → x ≤ th.length → fr far x ≠ 0 → fr far x < D → ∀ v ∈ (rd_T43 th (x - 1)).f3, ∀ o, Rg.Obj th v o → fr far o ≠ 0
  lev : ∀ e : Int, 1 ≤ e → (∃ x : Int, 1 ≤ x ∧ x ≤ th.length ∧ fr far x = e + 1) → ∃ x : Int, 1 ≤ x ∧ x ≤ th.length ∧ fr far x = e
  rts : ∀ v ∈ R0, ∀ o, Rg.Obj th v o → fr far o ≠ 0
theorem Wv.mark {th : List S43} {N : Int → Prop} {R0 : List S40} {D B : Int} {far : List Int} (h : Wv th N R0 D B far) (hB : 1 ≤ B) (hD : D ≤ B) (hp : B = 1 ∨ ∃ x : Int, 1 ≤ x ∧ x ≤ th.length ∧ fr far x = B - 1) (v : S40) (hv : ∀ o, Rg.Obj th v o → N o) :
    Wv th N R0 D B (markF th far v.f0 v.f1 B) ∧ (∀ x : Int, 1 ≤ x → fr far x ≠ 0 → fr (markF th far v.f0 v.f1 B) x = fr far x) ∧ (∀ o, Rg.Obj th v o → fr (markF th far v.f0 v.f1 B) o ≠ 0) ∧ (∀ x : Int, 1 ≤ x → fr (markF th far v.f0 v.f1 B) x = fr far x ∨ fr (markF th far v.f0 v.f1 B) x = B) := by
  unfold markF
  by_cases c : 0 < objF th v.f0 v.f1 ∧ fr far (objF th v.f0 v.f1) = 0
  · rw [if_pos c]
    obtain ⟨o, ho⟩ : ∃ o, objF th v.f0 v.f1 = o := ⟨_, rfl⟩
    rw [ho] at c ⊢
    have hobj : Rg.Obj th v o := by unfold Rg.Obj; rw [ho]; exact ⟨c.1, rfl⟩
    obtain ⟨o1, o2⟩ := obj_rng hobj
    have hl := h.len
    have hf : ∀ x : Int, 1 ≤ x → fr (far.set (o - 1).toNat B) x = if x = o then B else fr far x := fun x hx => fr_set hx o1 (by omega)
    have hk : ∀ x : Int, 1 ≤ x → fr far x ≠ 0 → fr (far.set (o - 1).toNat B) x = fr far x := fun x hx hn => by
      rw [hf x hx, if_neg]
      rintro rfl
      exact hn c.2
    have hnz : ∀ x : Int, 1 ≤ x → fr far x ≠ 0 → fr (far.set (o - 1).toNat B) x ≠ 0 := fun x hx hn => by rw [hk x hx hn]; exact hn
    refine ⟨⟨by rw [List.length_set, hl], ?_, ?_, ?_, ?_, ?_⟩, hk, ?_, ?_⟩
    · intro x hx hx2
      have := h.bd x hx hx2
      rw [hf x hx]
      split <;> omega
    · intro x hx hx2 hn
      rw [hf x hx] at hn
      split at hn
      · rename_i e; subst e; exact hv _ hobj
      · exact h.snd x hx hx2 hn
    · intro x hx hx2 hn hlt w hw o' ho'
      rw [hf x hx] at hn hlt
      split at hn
      · rename_i e; rw [if_pos e] at hlt; omega
      · rename_i e; rw [if_neg e] at hlt
        exact hnz o' (obj_rng ho').1 (h.clo x hx hx2 hn hlt w hw o' ho')
    · rintro e he ⟨x, hx, hx2, hxe⟩
      rw [hf x hx] at hxe
      split at hxe
      · rcases hp with hp | ⟨y, hy, hy2, hye⟩
        · omega
        · exact ⟨y, hy, hy2, by rw [hk y hy (by omega)]; omega⟩
      · obtain ⟨y, hy, hy2, hye⟩ := h.lev e he ⟨x, hx, hx2, hxe⟩
        exact ⟨y, hy, hy2, by rw [hk y hy (by omega)]; omega⟩
    · exact fun w hw o' ho' => hnz o' (obj_rng ho').1 (h.rts w hw o' ho')
    · intro o' ho'
      have : o' = o := by have := ho'.2; rw [ho] at this; exact this
      subst this
      rw [hf o' o1, if_pos rfl]
      omega
    · intro x hx
      rw [hf x hx]
      split
      · exact .inr rfl
      · exact .inl rfl
  · rw [if_neg c]
    refine ⟨h, fun _ _ _ => rfl, fun o ho z => ?_, fun _ _ => .inl rfl⟩
    obtain ⟨h1, h2⟩ := ho
    subst h2
    exact c ⟨h1, z⟩
theorem wv_up {th : List S43} {N : Int → Prop} {R0 : List S40} {D : Int} {far : List Int} (h : Wv th N R0 D D far) : Wv th N R0 D (D + 1) far :=
  ⟨h.len, fun x hx hx2 => by have := h.bd x hx hx2; omega, h.snd, h.clo, h.lev, h.rts⟩
theorem pigeon : ∀ (m : Nat) (l : List Int), (∀ e : Int, 1 ≤ e → e ≤ m → e ∈ l) → m ≤ l.length
  | 0, _, _ => Nat.zero_le _
  | m + 1, l, h => by
    have hm : ((m + 1 : Nat) : Int) ∈ l := h _ (by omega) (Int.le_refl _)
    have ih := pigeon m (l.erase ((m + 1 : Nat) : Int)) (fun e h1 h2 => (List.mem_erase_of_ne (by omega)).2 (h e h1 (by omega)))
    rw [List.length_erase_of_mem hm] at ih
    have := List.length_pos_of_mem hm
    omega
section
variable {th : List S43} {rt : List S40} {N : Int → Prop} (hs : th.length ≤ 60) (hsl : ∀ t ∈ th, t.f3.length ≤ 600) (hw : ∀ x, wk th x = 0) (hN : Closed th N)
include hs hsl hw hN
theorem ways_l3 {D : Int} (h1 : 1 ≤ D) (h2 : D ≤ 61) {h : Nat} (hh : h < th.length)
    (K : ∀ far, Wv th N rt D (D + 1) far → (∀ x : Int, 1 ≤ x → x ≤ (h : Int) + 1 → fr far x = D → ∀ v ∈ (rd_T43 th (x - 1)).f3, ∀ o, Rg.Obj th v o → fr far o ≠ 0) → ∃ k, heirloomlaw11_ReachWays.l2 k (th.length : Int) far D ((h : Int) + 1) th rt = some true) :
    ∀ (d i : Nat) (far : List Int), (rd_T43 th (h : Int)).f3.length - i = d → i ≤ (rd_T43 th (h : Int)).f3.length → Wv th N rt D (D + 1) far →
      (∀ x : Int, 1 ≤ x → x ≤ (h : Int) → fr far x = D → ∀ v ∈ (rd_T43 th (x - 1)).f3, ∀ o, Rg.Obj th v o → fr far o ≠ 0) →
      (fr far ((h : Int) + 1) = D → ∀ v ∈ (rd_T43 th (h : Int)).f3.take i, ∀ o, Rg.Obj th v o → fr far o ≠ 0) →
      ∃ k, heirloomlaw11_ReachWays.l3 k (th.length : Int) far D (h : Int) (i : Int) th rt = some true
  | d, i, far, hd, hi, W, hb, hc => by
    have hl := W.len
    have hr : rd_T43 th (h : Int) = th[h] := rd43_get hh
    have hlen := hsl _ (List.getElem_mem hh)
    rw [← hr] at hlen
    have ef : fr far ((h : Int) + 1) = rd far (h : Int) := by unfold fr; rw [Int.add_sub_cancel]
    have step : ∀ k, heirloomlaw11_ReachWays.l3 (k + 1) (th.length : Int) far D (h : Int) (i : Int) th rt = if rd far (h : Int) = D then (if i < (rd_T43 th (h : Int)).f3.length then heirloomlaw11_ReachWays.l3 k (th.length : Int) (markF th far (rd_T40 (rd_T43 th (h : Int)).f3 (i : Int)).f0 (rd_T40 (rd_T43 th (h : Int)).f3 (i : Int)).f1 (D + 1)) D (h : Int) ((i : Int) + 1) th rt else heirloomlaw11_ReachWays.l2 k (th.length : Int) far D ((h : Int) + 1) th rt) else heirloomlaw11_ReachWays.l2 k (th.length : Int) far D ((h : Int) + 1) th rt := by
      intro k
      rw [heirloomlaw11_ReachWays.l3, if_pos (by omega), if_pos (by omega)]
      by_cases c1 : rd far (h : Int) = D
      · rw [if_pos c1, if_pos c1, if_pos (by omega)]
        by_cases c2 : i < (rd_T43 th (h : Int)).f3.length
        · rw [if_pos (by omega), if_pos c2, if_pos (by omega), w64 (by omega) (by omega), mark_f _ _ _ _ _ _ hl hs, Option.bind_some, w64 (by omega) (by omega)]
        · rw [if_neg (by omega), if_neg c2, w64 (by omega) (by omega)]
      · rw [if_neg c1, if_neg c1, w64 (by omega) (by omega)]
    by_cases c1 : rd far (h : Int) = D
    · by_cases c2 : i < (rd_T43 th (h : Int)).f3.length
      · have hv : rd_T40 (rd_T43 th (h : Int)).f3 (i : Int) = (rd_T43 th (h : Int)).f3[i] := rd40_get c2
        have hNh : N ((h : Int) + 1) := W.snd _ (by omega) (by omega) (by rw [ef, c1]; omega)
        obtain ⟨W2, k2, m2, e2⟩ := W.mark (by omega) (by omega) (.inr ⟨(h : Int) + 1, by omega, by omega, by rw [ef, c1]; omega⟩) (rd_T40 (rd_T43 th (h : Int)).f3 (i : Int)) (fun o ho => hN _ hNh o (by
          unfold LeadD
          rw [if_pos (hw _), Int.add_sub_cancel]
          exact ⟨_, by rw [hv]; exact List.getElem_mem c2, ho⟩))
        have hD2 : ∀ x : Int, 1 ≤ x → fr (markF th far (rd_T40 (rd_T43 th (h : Int)).f3 (i : Int)).f0 (rd_T40 (rd_T43 th (h : Int)).f3 (i : Int)).f1 (D + 1)) x = D → fr far x = D := fun x hx hxe => by
          rcases e2 x hx with e | e <;> omega
        have keep : ∀ o : Int, 1 ≤ o → fr far o ≠ 0 → fr (markF th far (rd_T40 (rd_T43 th (h : Int)).f3 (i : Int)).f0 (rd_T40 (rd_T43 th (h : Int)).f3 (i : Int)).f1 (D + 1)) o ≠ 0 := fun o ho hn => by rw [k2 o ho hn]; exact hn
        obtain ⟨k, hk⟩ := ways_l3 h1 h2 hh K (d - 1) (i + 1) _ (by omega) (by omega) W2 (fun x hx hxh hxe v hvm o ho => keep o (obj_rng ho).1 (hb x hx hxh (hD2 x hx hxe) v hvm o ho)) (fun hxe v hvm o ho => by
          rw [List.take_add_one, List.mem_append] at hvm
          rcases hvm with hvm | hvm
          · exact keep o (obj_rng ho).1 (hc (by rw [ef]; exact c1) v hvm o ho)
          · rw [List.getElem?_eq_getElem c2] at hvm
            simp only [Option.toList_some, List.mem_singleton] at hvm
            subst hvm
            exact m2 o (by rw [hv]; exact ho))
        exact ⟨k + 1, by rw [step, if_pos c1, if_pos c2]; exact hk⟩
      · obtain ⟨k, hk⟩ := K far W (fun x hx hxh hxe v hvm o ho => by
          by_cases e : x = (h : Int) + 1
          · subst e
            refine hc hxe v ?_ o ho
            rw [List.take_of_length_le (by omega)]
            rwa [Int.add_sub_cancel] at hvm
          · exact hb x hx (by omega) hxe v hvm o ho)
        exact ⟨k + 1, by rw [step, if_pos c1, if_neg c2]; exact hk⟩
    · obtain ⟨k, hk⟩ := K far W (fun x hx hxh hxe v hvm o ho => by
        by_cases e : x = (h : Int) + 1
        · subst e
          exact absurd (ef.symm.trans hxe) c1
        · exact hb x hx (by omega) hxe v hvm o ho)
      exact ⟨k + 1, by rw [step, if_neg c1]; exact hk⟩
  termination_by d => d
theorem ways_l2 {D : Int} (h1 : 1 ≤ D) (h2 : D ≤ 61) (K : ∀ far, Wv th N rt (D + 1) (D + 1) far → ∃ k, heirloomlaw11_ReachWays.l1 k (th.length : Int) far (D + 1) th rt = some true) :
    ∀ (d h : Nat) (far : List Int), th.length - h = d → h ≤ th.length → Wv th N rt D (D + 1) far →
      (∀ x : Int, 1 ≤ x → x ≤ (h : Int) → fr far x = D → ∀ v ∈ (rd_T43 th (x - 1)).f3, ∀ o, Rg.Obj th v o → fr far o ≠ 0) →
      ∃ k, heirloomlaw11_ReachWays.l2 k (th.length : Int) far D (h : Int) th rt = some true
  | d, h, far, hd, hh, W, hb => by
    by_cases c : h < th.length
    · obtain ⟨k, hk⟩ := ways_l3 hs hsl hw hN h1 h2 c (fun far' W' hb' => by
          have := ways_l2 h1 h2 K (d - 1) (h + 1) far' (by omega) (by omega) W' (by
            intro x hx hxh
            exact hb' x hx (by omega))
          rwa [show ((h + 1 : Nat) : Int) = (h : Int) + 1 by omega] at this) _ 0 far rfl (Nat.zero_le _) W hb (fun _ v hv => by simp at hv)
      exact ⟨k + 1, by rw [heirloomlaw11_ReachWays.l2, if_pos (by omega)]; exact hk⟩
    · obtain ⟨k, hk⟩ := K far ⟨W.len, W.bd, W.snd, fun x hx hx2 hn hlt => by
        by_cases e : fr far x = D
        · exact hb x hx (by omega) e
        · exact W.clo x hx hx2 hn (by omega), W.lev, W.rts⟩
      exact ⟨k + 1, by rw [heirloomlaw11_ReachWays.l2, if_neg (by omega), w64 (by omega) (by omega)]; exact hk⟩
  termination_by d => d
end
theorem ways_l4 (n : Nat) (hn : n ≤ 60) (far : List Int) (a : List Bool) (hf : far.length = n) (ha : a.length = n) (he : ∀ i : Nat, i < n → (rdOf false a (i : Int) = true ↔ rd far (i : Int) > 0)) :
    ∀ (d i : Nat), n - i = d → i ≤ n → ∃ k, heirloomlaw11_ReachWays.l4 k (n : Int) far a (i : Int) = some true
  | d, i, hd, hi => by
    by_cases c : i < n
    · obtain ⟨k, hk⟩ := ways_l4 n hn far a hf ha he (d - 1) (i + 1) (by omega) (by omega)
      refine ⟨k + 1, ?_⟩
      rw [heirloomlaw11_ReachWays.l4, if_pos (by omega), if_pos (by omega), if_pos (by omega), if_pos (by omega), if_neg, w64 (by omega) (by omega)]
      · exact hk
      · have h := he i c
        by_cases e : rdOf false a (i : Int) = true
        · rw [e, decide_eq_true (h.1 e)]; decide
        · have e2 : ¬ rd far (i : Int) > 0 := fun z => e (h.2 z)
          rw [Bool.eq_false_iff.2 e, decide_eq_false e2]; decide
    · exact ⟨1, by rw [heirloomlaw11_ReachWays.l4, if_neg (by omega), alive_f]; rfl⟩
  termination_by d => d
theorem ways_l1 {th : List S43} {rt : List S40} {a : List Bool} (hs : th.length ≤ 60) (hsl : ∀ t ∈ th, t.f3.length ≤ 600) (hw : ∀ x, wk th x = 0) (ea : reach_Strong.f th rt [] = some a) (la : a.length = th.length) (ca : Closed th (Nd a))
    (ma : ∀ N' : Int → Prop, (∀ x, Root th rt [] x → N' x) → Closed th N' → ∀ x, Nd a x → N' x) :
    ∀ (d D : Nat) (far : List Int), th.length + 1 - D = d → 1 ≤ D → D ≤ th.length + 1 → Wv th (Nd a) rt (D : Int) (D : Int) far → ∃ k, heirloomlaw11_ReachWays.l1 k (th.length : Int) far (D : Int) th rt = some true
  | d, D, far, hd, h1, h2, W => by
    by_cases c : D ≤ th.length
    · obtain ⟨k, hk⟩ := ways_l2 hs hsl hw ca (by omega) (by omega) (fun far' W' => by
          have := ways_l1 hs hsl hw ea la ca ma (d - 1) (D + 1) far' (by omega) (by omega) (by omega) W'
          rwa [show ((D + 1 : Nat) : Int) = (D : Int) + 1 by omega] at this) _ 0 far rfl (Nat.zero_le _) (wv_up W) (fun x hx hx2 => by omega)
      exact ⟨k + 1, by rw [heirloomlaw11_ReachWays.l1, if_pos (by omega)]; exact hk⟩
    · have hl := W.len
      have top : ∀ x : Int, 1 ≤ x → x ≤ th.length → fr far x ≠ D := by
        intro x hx hx2 hxe
        have all : ∀ j : Nat, j < D → ∃ y : Int, 1 ≤ y ∧ y ≤ th.length ∧ fr far y = ((D - j : Nat) : Int) := by
          intro j
          induction j with
          | zero => exact fun _ => ⟨x, hx, hx2, hxe⟩
          | succ j ih =>
            intro hj
            obtain ⟨y, hy, hy2, hye⟩ := ih (by omega)
            obtain ⟨z, hz, hz2, hze⟩ := W.lev ((D - (j + 1) : Nat) : Int) (by omega) ⟨y, hy, hy2, by omega⟩
            exact ⟨z, hz, hz2, hze⟩
        have := pigeon D far (fun e h1 h2 => by
          obtain ⟨y, hy, hy2, hye⟩ := all (D - e.toNat) (by omega)
          unfold fr rd at hye
          rw [List.getD_eq_getElem?_getD, List.getElem?_eq_getElem (by omega)] at hye
          have : far[(y - 1).toNat] = e := by
            have h3 : far[(y - 1).toNat] = ((D - (D - e.toNat) : Nat) : Int) := hye
            omega
          rw [← this]
          exact List.getElem_mem _)
        omega
      obtain ⟨k, hk⟩ := ways_l4 th.length hs far a hl la (fun i hi => by
        have ef : fr far ((i : Int) + 1) = rd far (i : Int) := by unfold fr; rw [Int.add_sub_cancel]
        constructor
        · intro e
          have hm := ma (fun x : Int => 1 ≤ x ∧ x ≤ th.length ∧ fr far x ≠ 0) (fun x hx => by
            rcases hx with ⟨v, hv, ho⟩ | ⟨hm, _⟩
            · exact ⟨(obj_rng ho).1, (obj_rng ho).2, W.rts v hv x ho⟩
            · cases hm) (fun x ⟨x1, x2, x3⟩ h hd => by
            unfold LeadD at hd
            rw [if_pos (hw x)] at hd
            obtain ⟨v, hv, ho⟩ := hd
            have := W.bd x x1 x2
            have := top x x1 x2
            exact ⟨(obj_rng ho).1, (obj_rng ho).2, W.clo x x1 x2 x3 (by omega) v hv h ho⟩) ((i : Int) + 1) ⟨by omega, by rw [Int.add_sub_cancel]; exact e⟩
          have := W.bd ((i : Int) + 1) (by omega) (by omega)
          have h3 := hm.2.2
          rw [ef] at this h3
          omega
        · intro e
          have := (W.snd ((i : Int) + 1) (by omega) (by omega) (by rw [ef]; omega)).2
          rwa [Int.add_sub_cancel] at this) _ 0 rfl (Nat.zero_le _)
      exact ⟨k + 1, by rw [heirloomlaw11_ReachWays.l1, if_neg (by omega), ea, Option.bind_some, if_pos (by omega)]; exact hk⟩
  termination_by d => d
theorem ways_l0 {th : List S43} {rt : List S40} {N : Int → Prop} (g0 : List S43) (hs : th.length ≤ 60) (hR : ∀ x, Root th rt [] x → N x) (hrl : rt.length ≤ 1000)
    (K : ∀ far, Wv th N rt 1 1 far → ∃ k, heirloomlaw11_ReachWays.l1 k (th.length : Int) far 1 th rt = some true) :
    ∀ (d i : Nat) (far : List Int), rt.length - i = d → i ≤ rt.length → Wv th N (rt.take i) 1 1 far → ∃ k, heirloomlaw11_ReachWays.l0 k (th.length : Int) far (i : Int) g0 rt th rt = some true
  | d, i, far, hd, hi, W => by
    by_cases c : i < rt.length
    · have hv : rd_T40 rt (i : Int) = rt[i] := rd40_get c
      obtain ⟨W2, k2, m2, _⟩ := W.mark (by omega) (by omega) (.inl rfl) (rd_T40 rt (i : Int)) (fun o ho => hR o (.inl ⟨_, by rw [hv]; exact List.getElem_mem c, ho⟩))
      obtain ⟨k, hk⟩ := ways_l0 g0 hs hR hrl K (d - 1) (i + 1) _ (by omega) (by omega) ⟨W2.len, W2.bd, W2.snd, W2.clo, W2.lev, fun v hvm o ho => by
        rw [List.take_add_one, List.mem_append] at hvm
        rcases hvm with hvm | hvm
        · exact W2.rts v hvm o ho
        · rw [List.getElem?_eq_getElem c] at hvm
          simp only [Option.toList_some, List.mem_singleton] at hvm
          subst hvm
          exact m2 o (by rw [hv]; exact ho)⟩
      exact ⟨k + 1, by rw [heirloomlaw11_ReachWays.l0, if_pos (by omega), if_pos (by omega), mark_f _ _ _ _ _ _ W.len hs, Option.bind_some, w64 (by omega) (by omega)]; exact hk⟩
    · obtain ⟨k, hk⟩ := K far (by rwa [List.take_of_length_le (by omega)] at W)
      exact ⟨k + 1, by rw [heirloomlaw11_ReachWays.l0, if_neg (by omega)]; exact hk⟩
  termination_by d => d
theorem pl_get (th : List S43) (x : Int) : rd_T43 (th.map pl) x = pl (rd_T43 th x) := by
  unfold rd_T43
  rw [List.getD_eq_getElem?_getD, List.getD_eq_getElem?_getD, List.getElem?_map]
  rcases th[x.toNat]? with _ | t <;> rfl
theorem ReachWays (th : List S43) (rt : List S40) (hz : Sz th rt) : ∃ k, heirloomlaw11_ReachWays.f k th rt (th.map pl) rt = some true ∧ (heirloomlaw11_Small.f k th rt = some true → th.length ≤ 60) := by
  have sm : ∀ k, 62 ≤ k → heirloomlaw11_Small.f k th rt = some true → th.length ≤ 60 := fun k hk h => by
    rw [small_f th rt hz k hk] at h
    exact (small_bnd (Option.some.inj h)).1
  rcases hs : smallB th rt with _ | _
  · refine ⟨62, ?_, sm 62 (by omega)⟩
    unfold heirloomlaw11_ReachWays.f
    rw [small_f th rt hz 62 (by omega), Option.bind_some, hs, if_neg (by decide), alive_f]
    rfl
  · obtain ⟨b1, b2, b3⟩ := small_bnd hs
    have l1 : (th.map pl).length = th.length := List.length_map ..
    have b2' : ∀ t ∈ th.map pl, t.f3.length ≤ 600 := fun t ht => by
      obtain ⟨u, hu, rfl⟩ := List.mem_map.1 ht
      exact b2 u hu
    have hw : ∀ x, wk (th.map pl) x = 0 := fun x => by
      unfold wk weakF
      rw [pl_get]
      show (if (pl _).f0 ≠ 5 ∨ (0 : Int) < 0 ∨ (3 : Int) < 0 then (0 : Int) else 0) = 0
      split <;> rfl
    obtain ⟨a, ea, ha⟩ := strong_f (th.map pl) rt [] (bnd_mk (by omega) b2' (by omega)) (by simp)
    obtain ⟨la, ra, ca, ma⟩ := strong_char ha
    obtain ⟨k, hk⟩ := ways_l0 th (by omega) ra (by omega) (fun far W => ways_l1 (by omega) b2' hw ea la ca ma _ 1 far rfl (by omega) (by omega) W) _ 0 (List.replicate th.length 0) rfl (Nat.zero_le _) (by
      have z : ∀ x, fr (List.replicate th.length 0) x = 0 := fun x => by
        unfold fr rd
        rw [List.getD_eq_getElem?_getD, List.getElem?_replicate]
        split <;> rfl
      exact ⟨by rw [List.length_replicate, l1], fun x _ _ => by rw [z]; omega, fun x _ _ hn => absurd (z x) hn, fun x _ _ hn => absurd (z x) hn, fun e he ⟨x, _, _, hx⟩ => by rw [z] at hx; omega, fun v hv => by simp at hv⟩)
    have hm : ∀ m, heirloomlaw11_ReachWays.l0 (k + m) (th.length : Int) (List.replicate th.length 0) 0 th rt (th.map pl) rt = some true := by
      intro m
      induction m with
      | zero => rw [l1] at hk; exact hk
      | succ m ih => exact (heirloomlaw11_ReachWays.mono_l (k + m)).1 _ _ _ _ _ _ _ _ ih
    refine ⟨k + 62, ?_, sm _ (by omega)⟩
    unfold heirloomlaw11_ReachWays.f
    rw [small_f th rt hz _ (by omega), Option.bind_some, hs, if_pos rfl, if_pos (by omega), if_pos (by omega), Int.toNat_natCast]
    exact hm 62
end Go.Proofs.Ytollnnbcfhnlfaa.Pure
