/- reach, part G8 of the hand texts (Pl, Pm, Pn): what each part says stands at its head. -/
import Derived.Test.YtollnnbcfhnlfaaG7
/- reach, the plain law: what Strong tells is the least set that holds the roots and is closed under 'leads to'. -/
set_option linter.unusedVariables false
set_option linter.unusedSimpArgs false
namespace Go.Proofs.Ytollnnbcfhnlfaa.Rg
open Go.RowKit Go.Proofs.Ytollnnbcfhnlfaa.QR Go.Proofs.YtollnnbcfhnlfaaW.PrintWords Go.Proofs.YtollnnbcfhnlfaaW.PrintLast Go.Proofs.YtollnnbcfhnlfaaW.PrintMore
def Nd (l : List Bool) (h : Int) : Prop := 1 ≤ h ∧ rdOf false l (h - 1) = true
def Obj (th : List S43) (v : S40) (h : Int) : Prop := 0 < objF th v.f0 v.f1 ∧ h = objF th v.f0 v.f1
def StepD (th : List S43) (wv : Int) (sl : List S40) (N : Int → Prop) (q : Int × Int) (h : Int) : Prop :=
 if wv = 1 then
  if q.1 < 0 then Obj th (rd_T40 sl q.2) h
  else (weaklyF th (rd_T40 sl q.1).f0 (rd_T40 sl q.1).f1 = false ∨ N (objF th (rd_T40 sl q.1).f0 (rd_T40 sl q.1).f1)) ∧ (Obj th (rd_T40 sl q.1) h ∨ Obj th (rd_T40 sl q.2) h)
 else if wv = 2 ∧ 0 ≤ q.1 then Obj th (rd_T40 sl q.1) h ∨ ((rd_T40 sl q.2).f0 = 4 ∧ Obj th (rd_T40 sl q.2) h)
 else (0 ≤ q.1 ∧ (rd_T40 sl q.1).f0 = 4 ∧ Obj th (rd_T40 sl q.1) h) ∨ ((rd_T40 sl q.2).f0 = 4 ∧ Obj th (rd_T40 sl q.2) h)
def wk (th : List S43) (x : Int) : Int := weakF (rd_T43 th (x - 1)).f0 (rd_T43 th (x - 1)).f1
def LeadD (th : List S43) (N : Int → Prop) (x h : Int) : Prop :=
 if wk th x = 0 then ∃ v ∈ (rd_T43 th (x - 1)).f3, Obj th v h
 else ((rd_T43 th (x - 1)).f3.length ≠ 0 ∧ Obj th (rd_T40 (rd_T43 th (x - 1)).f3 0) h) ∨ ∃ q ∈ slotsL (rd_T43 th (x - 1)).f3.length (rd_T43 th (x - 1)).f2, StepD th (wk th x) (rd_T43 th (x - 1)).f3 N q h
theorem StepD.mono {th : List S43} {wv : Int} {sl : List S40} {N N' : Int → Prop} (hN : ∀ h, N h → N' h) {q : Int × Int} {h : Int} (d : StepD th wv sl N q h) : StepD th wv sl N' q h := by
 unfold StepD at *
 split
 ·rename_i h1
  rw [if_pos h1] at d
  split
  ·rename_i h2; rw [if_pos h2] at d; exact d
  ·rename_i h2; rw [if_neg h2] at d; exact ⟨d.1.imp id (hN _), d.2⟩
 ·rename_i h1; rw [if_neg h1] at d; exact d
theorem StepD.any {th : List S43} {wv : Int} {sl : List S40} {N N' : Int → Prop} (hw : wv ≠ 1) {q : Int × Int} {h : Int} (d : StepD th wv sl N q h) : StepD th wv sl N' q h := by
 unfold StepD at *
 rw [if_neg hw] at *
 exact d
theorem LeadD.mono {th : List S43} {N N' : Int → Prop} (hN : ∀ h, N h → N' h) {x h : Int} (d : LeadD th N x h) : LeadD th N' x h := by
 unfold LeadD at *
 split
 ·rename_i h1; rw [if_pos h1] at d; exact d
 ·rename_i h1
  rw [if_neg h1] at d
  exact d.imp id (fun ⟨q, hq, e⟩ => ⟨q, hq, e.mono hN⟩)
theorem LeadD.any {th : List S43} {N N' : Int → Prop} {x h : Int} (hw : wk th x ≠ 1) (d : LeadD th N x h) : LeadD th N' x h := by
 unfold LeadD at *
 split
 ·rename_i h1; rw [if_pos h1] at d; exact d
 ·rename_i h1
  rw [if_neg h1] at d
  exact d.imp id (fun ⟨q, hq, e⟩ => ⟨q, hq, e.any hw⟩)
/-- s has grown to r, and holds L -/
structure Gr (s r : St) (L : Int → Prop) : Prop where
 mono : ∀ h, Nd s.1 h → Nd r.1 h
 lo : ∀ h, L h → Nd r.1 h
 td : ∃ l, r.2 = s.2 ++ l ∧ (l = [] → r = s) ∧ ∀ h, Nd r.1 h → Nd s.1 h ∨ h ∈ l
 tn : ∀ h, h ∈ r.2 → h ∈ s.2 ∨ Nd r.1 h
theorem Gr.refl (s : St) : Gr s s (fun _ => False) := ⟨fun _ h => h, fun _ h => h.elim, ⟨[], by simp, fun _ => rfl, fun h hh => .inl hh⟩, fun h hh => .inl hh⟩
theorem Gr.weaken {s r : St} {L L' : Int → Prop} (g : Gr s r L) (hL : ∀ h, L' h → L h) : Gr s r L' := ⟨g.mono, fun h hh => g.lo h (hL h hh), g.td, g.tn⟩
theorem Gr.weaken' {s : St} {L' : Int → Prop} (g : Gr s s (fun _ => False)) (hL : ∀ h, L' h → Nd s.1 h) : Gr s s L' := ⟨g.mono, hL, g.td, g.tn⟩
theorem Gr.trans {s r q : St} {L L' : Int → Prop} (g : Gr s r L) (k : Gr r q L') : Gr s q (fun h => L h ∨ L' h) := by
 obtain ⟨l, e1, z1, n1⟩ := g.td
 obtain ⟨l', e2, z2, n2⟩ := k.td
 refine ⟨fun h hh => k.mono h (g.mono h hh), fun h hh => hh.elim (fun a => k.mono h (g.lo h a)) (k.lo h), ⟨l ++ l', by rw [e2, e1, List.append_assoc], fun he => ?_, fun h hh => ?_⟩, fun h hh => ?_⟩
 ·obtain ⟨a, b⟩ := List.append_eq_nil_iff.1 he
  rw [z2 b, z1 a]
 ·rcases n2 h hh with a | a
  ·rcases n1 h a with b | b
   ·exact .inl b
   ·exact .inr (List.mem_append.2 (.inl b))
  ·exact .inr (List.mem_append.2 (.inr a))
 ·rcases k.tn h hh with a | a
  ·exact (g.tn h a).imp id (k.mono h)
  ·exact .inr a
theorem nd_set {l : List Bool} {i h : Int} (hi : 1 ≤ i) (hl : i ≤ l.length) : Nd (l.set (i - 1).toNat true) h ↔ Nd l h ∨ h = i := by
 unfold Nd rdOf
 rw [List.getD_eq_getElem?_getD, List.getD_eq_getElem?_getD]
 by_cases hh : h = i
 ·subst hh
  rw [List.getElem?_set_self (by omega)]
  simp [hi]
 ·by_cases h1 : 1 ≤ h
  ·rw [List.getElem?_set_ne (by omega)]
   simp [hh]
  ·simp [hh, h1]
theorem gr_push {th : List S43} {s : St} (F : Fine th s) (i : Int) (h0 : 1 ≤ i) (h1 : i ≤ th.length) : Gr s (s.1.set (i - 1).toNat true, s.2 ++ [i]) (fun h => h = i) ∧ ∀ h, Nd (s.1.set (i - 1).toNat true) h → Nd s.1 h ∨ h = i := by
 have e : ∀ h, Nd (s.1.set (i - 1).toNat true) h ↔ Nd s.1 h ∨ h = i := fun h => nd_set h0 (by rw [F.len]; exact h1)
 exact ⟨⟨fun h hh => (e h).2 (.inl hh), fun h hh => (e h).2 (.inr hh), ⟨[i], rfl, by simp, fun h hh => ((e h).1 hh).imp id (fun z => by simp [z])⟩, fun h hh => (List.mem_append.1 hh).imp id (fun z => (e h).2 (.inr (by simpa using z)))⟩, fun h hh => (e h).1 hh⟩
theorem gr_need {th : List S43} {s : St} (F : Fine th s) (t n : Int) : Gr s (needF th s.1 s.2 t n) (fun h => 0 < objF th t n ∧ h = objF th t n) ∧ ∀ h, Nd (needF th s.1 s.2 t n).1 h → Nd s.1 h ∨ (0 < objF th t n ∧ h = objF th t n) := by
 unfold needF
 split
 ·rename_i hc
  have := obj_bd th t n
  obtain ⟨a, b⟩ := gr_push F (objF th t n) (by omega) this.2
  exact ⟨a.weaken (fun h hh => hh.2), fun h hh => (b h hh).imp id (fun z => ⟨hc.1, z⟩)⟩
 ·rename_i hc
  refine ⟨(Gr.refl s).weaken' ?_, fun h hh => .inl hh⟩
  rintro h ⟨hp, rfl⟩
  refine ⟨by omega, ?_⟩
  by_cases hq : rdOf false s.1 (objF th t n - 1) = true
  ·exact hq
  ·exact absurd ⟨hp, by simpa using hq⟩ hc
end Go.Proofs.Ytollnnbcfhnlfaa.Rg

/- reach, the plain law, second part. -/
set_option linter.unusedVariables false
set_option linter.unusedSimpArgs false
namespace Go.Proofs.Ytollnnbcfhnlfaa.Rg
open Go.RowKit Go.Proofs.Ytollnnbcfhnlfaa.QR Go.Proofs.YtollnnbcfhnlfaaW.PrintWords Go.Proofs.YtollnnbcfhnlfaaW.PrintLast Go.Proofs.YtollnnbcfhnlfaaW.PrintMore
theorem gr_str {th : List S43} {s : St} (F : Fine th s) (v : S40) : Gr s (strF th s.1 s.2 v.f0 v.f1) (fun h => v.f0 = 4 ∧ Obj th v h) ∧ ∀ h, Nd (strF th s.1 s.2 v.f0 v.f1).1 h → Nd s.1 h ∨ (v.f0 = 4 ∧ Obj th v h) := by
 unfold strF
 split
 ·rename_i h4
  obtain ⟨a, b⟩ := gr_need F v.f0 v.f1
  exact ⟨a.weaken (fun h hh => hh.2), fun h hh => (b h hh).imp id (fun z => ⟨h4, z⟩)⟩
 ·rename_i h4
  exact ⟨(Gr.refl s).weaken' (fun h hh => absurd hh.1 h4), fun h hh => .inl hh⟩
theorem gr_step {th : List S43} {s : St} (F : Fine th s) (kind weak : Int) (sl : List S40) (q : Int × Int) : Gr s (stepF th kind weak sl s q.1 q.2) (StepD th (weakF kind weak) sl (Nd s.1) q) ∧ ∀ h, Nd (stepF th kind weak sl s q.1 q.2).1 h → Nd s.1 h ∨ StepD th (weakF kind weak) sl (Nd s.1) q h := by
 unfold stepF
 split
 ·rename_i hw
  split
  ·rename_i hk
   obtain ⟨a, b⟩ := gr_need F (rd_T40 sl q.2).f0 (rd_T40 sl q.2).f1
   have e : ∀ h, StepD th (weakF kind weak) sl (Nd s.1) q h ↔ Obj th (rd_T40 sl q.2) h := fun h => by unfold StepD; rw [if_pos hw, if_pos hk]
   exact ⟨a.weaken (fun h hh => (e h).1 hh), fun h hh => (b h hh).imp id (fun z => (e h).2 z)⟩
  ·rename_i hk
   have e : ∀ h, StepD th (weakF kind weak) sl (Nd s.1) q h ↔ (weaklyF th (rd_T40 sl q.1).f0 (rd_T40 sl q.1).f1 = false ∨ Nd s.1 (objF th (rd_T40 sl q.1).f0 (rd_T40 sl q.1).f1)) ∧ (Obj th (rd_T40 sl q.1) h ∨ Obj th (rd_T40 sl q.2) h) := fun h => by unfold StepD; rw [if_pos hw, if_neg hk]
   split
   ·rename_i hg
    obtain ⟨a, b⟩ := gr_need F (rd_T40 sl q.1).f0 (rd_T40 sl q.1).f1
    obtain ⟨c, d⟩ := gr_need (F.need (rd_T40 sl q.1).f0 (rd_T40 sl q.1).f1) (rd_T40 sl q.2).f0 (rd_T40 sl q.2).f1
    have hg' : weaklyF th (rd_T40 sl q.1).f0 (rd_T40 sl q.1).f1 = false ∨ Nd s.1 (objF th (rd_T40 sl q.1).f0 (rd_T40 sl q.1).f1) := by
     by_cases hwk : weaklyF th (rd_T40 sl q.1).f0 (rd_T40 sl q.1).f1 = false
     ·exact .inl hwk
     ·refine .inr ⟨?_, hg.resolve_left hwk⟩
      unfold weaklyF at hwk
      simp only [Bool.not_eq_false, Bool.and_eq_true, decide_eq_true_eq] at hwk
      omega
    refine ⟨(a.trans c).weaken (fun h hh => ((e h).1 hh).2), fun h hh => ?_⟩
    rcases d h hh with z | z
    ·exact (b h z).imp id (fun y => (e h).2 ⟨hg', .inl y⟩)
    ·exact .inr ((e h).2 ⟨hg', .inr z⟩)
   ·rename_i hg
    refine ⟨(Gr.refl s).weaken' (fun h hh => ?_), fun h hh => .inl hh⟩
    exact absurd (((e h).1 hh).1.imp id (fun z => z.2)) hg
 ·rename_i hw
  split
  ·rename_i hk
   have e : ∀ h, StepD th (weakF kind weak) sl (Nd s.1) q h ↔ Obj th (rd_T40 sl q.1) h ∨ ((rd_T40 sl q.2).f0 = 4 ∧ Obj th (rd_T40 sl q.2) h) := fun h => by unfold StepD; rw [if_neg hw, if_pos hk]
   obtain ⟨a, b⟩ := gr_need F (rd_T40 sl q.1).f0 (rd_T40 sl q.1).f1
   obtain ⟨c, d⟩ := gr_str (F.need (rd_T40 sl q.1).f0 (rd_T40 sl q.1).f1) (rd_T40 sl q.2)
   refine ⟨(a.trans c).weaken (fun h hh => (e h).1 hh), fun h hh => ?_⟩
   rcases d h hh with z | z
   ·exact (b h z).imp id (fun y => (e h).2 (.inl y))
   ·exact .inr ((e h).2 (.inr z))
  ·rename_i hk
   have e : ∀ h, StepD th (weakF kind weak) sl (Nd s.1) q h ↔ (0 ≤ q.1 ∧ (rd_T40 sl q.1).f0 = 4 ∧ Obj th (rd_T40 sl q.1) h) ∨ ((rd_T40 sl q.2).f0 = 4 ∧ Obj th (rd_T40 sl q.2) h) := fun h => by unfold StepD; rw [if_neg hw, if_neg hk]
   split
   ·rename_i h0
    obtain ⟨a, b⟩ := gr_str F (rd_T40 sl q.1)
    obtain ⟨c, d⟩ := gr_str (F.str (rd_T40 sl q.1).f0 (rd_T40 sl q.1).f1) (rd_T40 sl q.2)
    refine ⟨(a.trans c).weaken (fun h hh => ((e h).1 hh).imp (fun z => z.2) id), fun h hh => ?_⟩
    rcases d h hh with z | z
    ·exact (b h z).imp id (fun y => (e h).2 (.inl ⟨h0, y⟩))
    ·exact .inr ((e h).2 (.inr z))
   ·rename_i h0
    obtain ⟨c, d⟩ := gr_str F (rd_T40 sl q.2)
    refine ⟨c.weaken (fun h hh => ((e h).1 hh).resolve_left (fun z => h0 z.1)), fun h hh => (d h hh).imp id (fun z => (e h).2 (.inr z))⟩
theorem gr_steps {th : List S43} (kind weak : Int) (sl : List S40) (l : List (Int × Int)) : ∀ {s : St} (F : Fine th s), Gr s (l.foldl (fun s q => stepF th kind weak sl s q.1 q.2) s) (fun h => ∃ q ∈ l, StepD th (weakF kind weak) sl (Nd s.1) q h) ∧ ∀ N' : Int → Prop, (∀ h, Nd s.1 h → N' h) → (∀ q ∈ l, ∀ h, StepD th (weakF kind weak) sl N' q h → N' h) → ∀ h, Nd (l.foldl (fun s q => stepF th kind weak sl s q.1 q.2) s).1 h → N' h := by
 induction l with
 | nil => intro s F; exact ⟨(Gr.refl s).weaken' (fun h ⟨q, hq, _⟩ => nomatch hq), fun N' hN _ h hh => hN h hh⟩
 | cons q l ih =>
  intro s F
  obtain ⟨a, b⟩ := gr_step F kind weak sl q
  obtain ⟨c, d⟩ := ih (F.step kind weak sl q.1 q.2)
  refine ⟨(a.trans c).weaken (fun h ⟨p, hp, hd⟩ => ?_), fun N' hN hs h hh => ?_⟩
  ·rcases List.mem_cons.1 hp with e | e
   ·subst e; exact .inl hd
   ·exact .inr ⟨p, e, hd.mono a.mono⟩
  ·refine d N' (fun x hx => ?_) (fun p hp => hs p (List.mem_cons_of_mem _ hp)) h hh
   rcases b x hx with z | z
   ·exact hN x z
   ·exact hs q (List.mem_cons_self ..) x (z.mono hN)
theorem gr_needs {th : List S43} (l : List S40) : ∀ {s : St} (F : Fine th s), Gr s (l.foldl (fun s v => needF th s.1 s.2 v.f0 v.f1) s) (fun h => ∃ v ∈ l, Obj th v h) ∧ ∀ h, Nd (l.foldl (fun s v => needF th s.1 s.2 v.f0 v.f1) s).1 h → Nd s.1 h ∨ ∃ v ∈ l, Obj th v h := by
 induction l with
 | nil => intro s F; exact ⟨(Gr.refl s).weaken' (fun h ⟨q, hq, _⟩ => nomatch hq), fun h hh => .inl hh⟩
 | cons v l ih =>
  intro s F
  obtain ⟨a, b⟩ := gr_need F v.f0 v.f1
  obtain ⟨c, d⟩ := ih (F.need v.f0 v.f1)
  refine ⟨(a.trans c).weaken (fun h ⟨p, hp, hd⟩ => ?_), fun h hh => ?_⟩
  ·rcases List.mem_cons.1 hp with e | e
   ·subst e; exact .inl hd
   ·exact .inr ⟨p, e, hd⟩
  ·rcases d h hh with z | ⟨p, hp, z⟩
   ·exact (b h z).imp id (fun y => ⟨v, List.mem_cons_self .., y⟩)
   ·exact .inr ⟨p, List.mem_cons_of_mem _ hp, z⟩
theorem gr_lead {th : List S43} {s : St} (F : Fine th s) (x : Int) : Gr s (leadF th s x) (LeadD th (Nd s.1) x) ∧ ∀ N' : Int → Prop, (∀ h, Nd s.1 h → N' h) → (∀ h, LeadD th N' x h → N' h) → ∀ h, Nd (leadF th s x).1 h → N' h := by
 unfold leadF
 split
 ·rename_i hw
  have e : ∀ N h, LeadD th N x h ↔ ∃ v ∈ (rd_T43 th (x - 1)).f3, Obj th v h := fun N h => by unfold LeadD; rw [if_pos (show wk th x = 0 from hw)]
  obtain ⟨a, b⟩ := gr_needs (rd_T43 th (x - 1)).f3 F
  refine ⟨a.weaken (fun h hh => (e _ h).1 hh), fun N' hN hs h hh => ?_⟩
  exact (b h hh).elim (hN h) (fun z => hs h ((e _ h).2 z))
 ·rename_i hw
  have e : ∀ N h, LeadD th N x h ↔ ((rd_T43 th (x - 1)).f3.length ≠ 0 ∧ Obj th (rd_T40 (rd_T43 th (x - 1)).f3 0) h) ∨ ∃ q ∈ slotsL (rd_T43 th (x - 1)).f3.length (rd_T43 th (x - 1)).f2, StepD th (wk th x) (rd_T43 th (x - 1)).f3 N q h := fun N h => by unfold LeadD; rw [if_neg (show ¬ wk th x = 0 from hw)]
  have base : ∃ s1, (if (rd_T43 th (x - 1)).f3.length = 0 then s else needF th s.1 s.2 (rd_T40 (rd_T43 th (x - 1)).f3 0).f0 (rd_T40 (rd_T43 th (x - 1)).f3 0).f1) = s1 ∧ Fine th s1 ∧ Gr s s1 (fun h => (rd_T43 th (x - 1)).f3.length ≠ 0 ∧ Obj th (rd_T40 (rd_T43 th (x - 1)).f3 0) h) ∧ ∀ h, Nd s1.1 h → Nd s.1 h ∨ ((rd_T43 th (x - 1)).f3.length ≠ 0 ∧ Obj th (rd_T40 (rd_T43 th (x - 1)).f3 0) h) := by
   by_cases hz : (rd_T43 th (x - 1)).f3.length = 0
   ·exact ⟨s, if_pos hz, F, (Gr.refl s).weaken' (fun h hh => absurd hz hh.1), fun h hh => .inl hh⟩
   ·obtain ⟨a, b⟩ := gr_need F (rd_T40 (rd_T43 th (x - 1)).f3 0).f0 (rd_T40 (rd_T43 th (x - 1)).f3 0).f1
    exact ⟨_, if_neg hz, F.need _ _, a.weaken (fun h hh => hh.2), fun h hh => (b h hh).imp id (fun z => ⟨hz, z⟩)⟩
  obtain ⟨s1, e1, F1, a, b⟩ := base
  rw [e1]
  obtain ⟨c, d⟩ := gr_steps (rd_T43 th (x - 1)).f0 (rd_T43 th (x - 1)).f1 (rd_T43 th (x - 1)).f3 (slotsL (rd_T43 th (x - 1)).f3.length (rd_T43 th (x - 1)).f2) F1
  refine ⟨(a.trans c).weaken (fun h hh => ?_), fun N' hN hs h hh => ?_⟩
  ·rcases (e _ h).1 hh with z | ⟨q, hq, z⟩
   ·exact .inl z
   ·exact .inr ⟨q, hq, z.mono a.mono⟩
  ·refine d N' (fun y hy => ?_) (fun q hq y hy => hs y ((e _ y).2 (.inr ⟨q, hq, hy⟩))) h hh
   exact (b y hy).elim (hN y) (fun z => hs y ((e _ y).2 (.inl z)))
end Go.Proofs.Ytollnnbcfhnlfaa.Rg

/- reach, the plain law, third part: what Strong tells is the least closed set. -/
set_option linter.unusedVariables false
set_option linter.unusedSimpArgs false
namespace Go.Proofs.Ytollnnbcfhnlfaa.Rg
open Go.RowKit Go.Proofs.Ytollnnbcfhnlfaa.QR Go.Proofs.YtollnnbcfhnlfaaW.PrintWords Go.Proofs.YtollnnbcfhnlfaaW.PrintLast Go.Proofs.YtollnnbcfhnlfaaW.PrintMore
def Closed (th : List S43) (N : Int → Prop) : Prop := ∀ x, N x → ∀ h, LeadD th N x h → N h
/-- what is needed is still to be gone through, or closed (weak keys aside) -/
def Inv (th : List S43) (s : St) : Prop := ∀ x, Nd s.1 x → x ∈ s.2 ∨ (wk th x ≠ 1 → ∀ h, LeadD th (Nd s.1) x h → Nd s.1 h)
theorem last_mem {s : St} (h : s.2 ≠ []) : lastF s ∈ s.2 ∧ ∀ x ∈ s.2, x ∈ (cutF s).2 ∨ x = lastF s := by
 have hl : s.2.length ≠ 0 := fun e => h (List.eq_nil_of_length_eq_zero e)
 have e : s.2.take (s.2.length - 1) ++ [lastF s] = s.2 := by
  have e1 : lastF s = s.2[s.2.length - 1]'(by omega) := by
   unfold lastF rdOf
   rw [List.getD_eq_getElem?_getD, show ((s.2.length : Int) - 1).toNat = s.2.length - 1 by omega, List.getElem?_eq_getElem (by omega)]
   rfl
  rw [e1]
  have := List.take_append_getElem (l := s.2) (i := s.2.length - 1) (by omega)
  rw [this]
  exact List.take_of_length_le (by omega)
 refine ⟨by rw [← e]; simp, fun x hx => ?_⟩
 rw [← e] at hx
 rcases List.mem_append.1 hx with z | z
 ·exact .inl z
 ·exact .inr (by simpa using z)
theorem inv_lead {th : List S43} {s : St} (F : Fine th s) (x : Int) (I : ∀ y, Nd s.1 y → y ∈ s.2 ∨ y = x ∨ (wk th y ≠ 1 → ∀ h, LeadD th (Nd s.1) y h → Nd s.1 h)) : Inv th (leadF th s x) := by
 obtain ⟨g, _⟩ := gr_lead F x
 obtain ⟨l, e, _, n⟩ := g.td
 intro y hy
 rcases n y hy with z | z
 ·rcases I y z with a | a | a
  ·exact .inl (by rw [e]; exact List.mem_append.2 (.inl a))
  ·subst a
   exact .inr (fun hw h hd => g.lo h (hd.any hw))
  ·exact .inr (fun hw h hd => g.mono h (a hw h (hd.any hw)))
 ·exact .inl (by rw [e]; exact List.mem_append.2 (.inr z))
theorem inv_pop {th : List S43} {s : St} (F : Fine th s) (hz : s.2 ≠ []) (I : Inv th s) : Inv th (popF th s) := by
 refine inv_lead F.cut (lastF s) (fun y hy => ?_)
 rcases I y hy with a | a
 ·exact ((last_mem hz).2 y a).imp id .inl
 ·exact .inr (.inr a)
theorem inv_drain {th : List S43} {s s' : St} (h : Drain th s s') (F : Fine th s) (I : Inv th s) : Inv th s' ∧ s'.2 = [] := by
 induction h with
 | nil hz => exact ⟨I, hz⟩
 | step hz _ ih => exact ih F.pop (inv_pop F hz I)
theorem inv_sweep1 {th : List S43} {s : St} (F : Fine th s) (i : Nat) (I : Inv th s) : Inv th (sweep1 th s i) := by
 unfold sweep1
 split
 ·exact inv_lead F _ (fun y hy => (I y hy).imp id .inr)
 ·exact I
theorem gr_sweep1 {th : List S43} {s : St} (F : Fine th s) (i : Nat) : Gr s (sweep1 th s i) (fun h => rdOf false s.1 (i : Int) = true ∧ weakF (rd_T43 th i).f0 (rd_T43 th i).f1 = 1 ∧ LeadD th (Nd s.1) (i + 1) h) := by
 unfold sweep1
 split
 ·exact (gr_lead F _).1.weaken (fun h hh => hh.2.2)
 ·rename_i hc
  exact (Gr.refl s).weaken' (fun h hh => absurd ⟨hh.1, hh.2.1⟩ hc)
theorem sweeps {th : List S43} (l : List Nat) : ∀ {s : St} (F : Fine th s) (I : Inv th s), Inv th (l.foldl (sweep1 th) s) ∧ (∃ k, (l.foldl (sweep1 th) s).2 = s.2 ++ k ∧ (k = [] → l.foldl (sweep1 th) s = s ∧ ∀ i ∈ l, rdOf false s.1 (i : Int) = true → weakF (rd_T43 th i).f0 (rd_T43 th i).f1 = 1 → ∀ h, LeadD th (Nd s.1) (i + 1) h → Nd s.1 h)) := by
 induction l with
 | nil => intro s F I; exact ⟨I, [], by simp, fun _ => ⟨rfl, fun i hi => nomatch hi⟩⟩
 | cons i l ih =>
  intro s F I
  obtain ⟨a, k, e, n⟩ := ih (F.sweep1 i) (inv_sweep1 F i I)
  have g := gr_sweep1 F i
  obtain ⟨k0, e0, z0, n0⟩ := g.td
  refine ⟨a, k0 ++ k, by rw [List.foldl_cons, e, e0, List.append_assoc], fun hk => ?_⟩
  obtain ⟨h1, h2⟩ := List.append_eq_nil_iff.1 hk
  have es := z0 h1
  obtain ⟨n1, n2⟩ := n h2
  rw [es] at n1 n2
  refine ⟨by rw [List.foldl_cons, es]; exact n1, fun j hj => ?_⟩
  rcases List.mem_cons.1 hj with e | e
  ·subst e
   intro r1 r2 h hd
   have := g.lo h ⟨r1, r2, hd⟩
   rw [es] at this
   exact this
  ·exact n2 j e
theorem nd_lt {th : List S43} {s : St} (F : Fine th s) {x : Int} (h : Nd s.1 x) : 1 ≤ x ∧ x ≤ th.length := by
 refine ⟨h.1, ?_⟩
 by_cases hx : x ≤ th.length
 ·exact hx
 ·have h2 := h.2
  unfold rdOf at h2
  rw [List.getD_eq_getElem?_getD, List.getElem?_eq_none (by rw [F.len]; omega)] at h2
  cases h2
theorem spr_closed {th : List S43} {s s' : St} (h : Spr th s s') : ∀ (F : Fine th s) (I : Inv th s) (C : s.2 = [] → Closed th (Nd s.1)), Closed th (Nd s'.1) ∧ Fine th s' := by
 induction h with
 | nil hz => exact fun F I C => ⟨C hz, F⟩
 | step hz hd hs ih =>
  rename_i s s1 s'
  intro F I C
  have F1 := hd.fine F
  obtain ⟨I1, z1⟩ := inv_drain hd F I
  obtain ⟨a, k, e, n⟩ := sweeps (List.range th.length) F1 I1
  refine ih (fine_sweeps F1 _).1 a (fun he => ?_)
  have he' : ((List.range th.length).foldl (sweep1 th) s1).2 = [] := he
  rw [e, z1, List.nil_append] at he'
  obtain ⟨n1, n2⟩ := n he'
  show Closed th (Nd ((List.range th.length).foldl (sweep1 th) s1).1)
  rw [n1]
  intro x hx y hd
  by_cases hw : wk th x = 1
  ·obtain ⟨x0, x1⟩ := nd_lt F1 hx
   have ex : ((x - 1).toNat : Int) = x - 1 := by omega
   refine n2 (x - 1).toNat (List.mem_range.2 (by omega)) (by rw [ex]; exact hx.2) (by rw [ex]; exact hw) y ?_
   rw [ex, Int.sub_add_cancel]
   exact hd
  ·rcases I1 x hx with z | z
   ·rw [z1] at z; cases z
   ·exact z hw y hd
/-- all that is needed is to do -/
def AllTodo (s : St) : Prop := ∀ x, Nd s.1 x → x ∈ s.2
theorem AllTodo.gr {s r : St} {L : Int → Prop} (h : AllTodo s) (g : Gr s r L) : AllTodo r := by
 obtain ⟨l, e, _, n⟩ := g.td
 intro x hx
 rw [e]
 exact List.mem_append.2 ((n x hx).imp (h x) id)
theorem gr_force {th : List S43} {s : St} (F : Fine th s) (i : Int) (h0 : 1 ≤ i) (h1 : i ≤ th.length) : Gr s (forceF s.1 s.2 i) (fun h => h = i) ∧ ∀ h, Nd (forceF s.1 s.2 i).1 h → Nd s.1 h ∨ h = i := by
 unfold forceF
 split
 ·exact gr_push F i h0 h1
 ·rename_i hc
  refine ⟨(Gr.refl s).weaken' ?_, fun h hh => .inl hh⟩
  rintro h rfl
  exact ⟨h0, by simpa using hc⟩
theorem obj_self (th : List S43) (t n : Int) : objF th t n = 0 ∨ objF th t n = n := by
 unfold objF
 split
 ·exact .inl rfl
 ·exact .inr rfl
theorem gr_more1 {th : List S43} {s : St} (F : Fine th s) (m : Int) : Gr s (more1 th s m) (fun h => h = m ∧ 1 ≤ m ∧ m ≤ th.length) ∧ ∀ h, Nd (more1 th s m).1 h → Nd s.1 h ∨ (h = m ∧ 1 ≤ m ∧ m ≤ th.length) := by
 unfold more1
 split
 ·rename_i hc
  obtain ⟨a, b⟩ := gr_need F (rd_T43 th (m - 1)).f0 m
  obtain ⟨c, d⟩ := gr_force (F.need (rd_T43 th (m - 1)).f0 m) m hc.1 hc.2
  refine ⟨(a.trans c).weaken (fun h hh => .inr hh.1), fun h hh => ?_⟩
  rcases d h hh with z | z
  ·rcases b h z with y | ⟨y1, y2⟩
   ·exact .inl y
   ·rcases obj_self th (rd_T43 th (m - 1)).f0 m with w | w
    ·omega
    ·exact .inr ⟨y2.trans w, hc⟩
  ·exact .inr ⟨z, hc⟩
 ·rename_i hc
  exact ⟨(Gr.refl s).weaken' (fun h hh => absurd hh.2 hc), fun h hh => .inl hh⟩
theorem gr_mores {th : List S43} (l : List Int) : ∀ {s : St} (F : Fine th s), Gr s (l.foldl (more1 th) s) (fun h => h ∈ l ∧ 1 ≤ h ∧ h ≤ th.length) ∧ ∀ h, Nd (l.foldl (more1 th) s).1 h → Nd s.1 h ∨ (h ∈ l ∧ 1 ≤ h ∧ h ≤ th.length) := by
 induction l with
 | nil => intro s F; exact ⟨(Gr.refl s).weaken' (fun h hh => nomatch hh.1), fun h hh => .inl hh⟩
 | cons m l ih =>
  intro s F
  obtain ⟨a, b⟩ := gr_more1 F m
  obtain ⟨c, d⟩ := ih (F.more1 m)
  refine ⟨(a.trans c).weaken (fun h hh => ?_), fun h hh => ?_⟩
  ·rcases List.mem_cons.1 hh.1 with e | e
   ·subst e; exact .inl ⟨rfl, hh.2⟩
   ·exact .inr ⟨e, hh.2⟩
  ·rcases d h hh with z | z
   ·rcases b h z with y | ⟨y, w⟩
    ·exact .inl y
    ·subst y; exact .inr ⟨List.mem_cons_self .., w⟩
   ·exact .inr ⟨List.mem_cons_of_mem _ z.1, z.2⟩
/-- what must be needed from the first -/
def Root (th : List S43) (rt : List S40) (mo : List Int) (h : Int) : Prop := (∃ v ∈ rt, Obj th v h) ∨ (h ∈ mo ∧ 1 ≤ h ∧ h ≤ th.length)
theorem start_spec (th : List S43) (rt : List S40) (mo : List Int) : AllTodo (startF th rt mo) ∧ ∀ h, Nd (startF th rt mo).1 h ↔ Root th rt mo h := by
 have h0 : ∀ h, ¬ Nd (List.replicate th.length false) h := by
  intro h hh
  have h2 := hh.2
  unfold rdOf at h2
  rw [List.getD_eq_getElem?_getD] at h2
  by_cases hl : (h - 1).toNat < th.length
  ·rw [List.getElem?_replicate, if_pos hl] at h2; cases h2
  ·rw [List.getElem?_eq_none (by simpa using hl)] at h2; cases h2
 have t0 : AllTodo (List.replicate th.length false, []) := fun x hx => absurd hx (h0 x)
 obtain ⟨a, b⟩ := gr_needs rt (fine0 th)
 obtain ⟨c, d⟩ := gr_mores mo (fine_roots th rt)
 refine ⟨(t0.gr a).gr c, fun h => ⟨fun hh => ?_, fun hh => ?_⟩⟩
 ·rcases d h hh with z | z
  ·rcases b h z with y | y
   ·exact absurd y (h0 h)
   ·exact .inl y
  ·exact .inr z
 ·rcases hh with z | z
  ·exact c.mono h (a.lo h z)
  ·exact c.lo h z
theorem Gr.todo {s r : St} {L : Int → Prop} (g : Gr s r L) (h : ∀ x ∈ s.2, Nd s.1 x) : ∀ x ∈ r.2, Nd r.1 x := fun x hx => (g.tn x hx).elim (fun a => g.mono x (h x a)) id
theorem sound_drain {th : List S43} {s s' : St} (h : Drain th s s') (N' : Int → Prop) (C : Closed th N') : ∀ (F : Fine th s) (hN : ∀ x, Nd s.1 x → N' x) (hT : ∀ x ∈ s.2, Nd s.1 x), (∀ x, Nd s'.1 x → N' x) ∧ (∀ x ∈ s'.2, Nd s'.1 x) := by
 induction h with
 | nil _ => exact fun F hN hT => ⟨hN, hT⟩
 | step hz hd ih =>
  rename_i s s'
  intro F hN hT
  obtain ⟨g, u⟩ := gr_lead F.cut (lastF s)
  exact ih F.pop (u N' hN (fun y hy => C _ (hN _ (hT _ (last_mem hz).1)) y hy)) (g.todo (fun x hx => hT x (List.mem_of_mem_take hx)))
theorem sound_sweeps {th : List S43} (N' : Int → Prop) (C : Closed th N') (l : List Nat) : ∀ {s : St} (F : Fine th s) (hN : ∀ x, Nd s.1 x → N' x) (hT : ∀ x ∈ s.2, Nd s.1 x), (∀ x, Nd (l.foldl (sweep1 th) s).1 x → N' x) ∧ (∀ x ∈ (l.foldl (sweep1 th) s).2, Nd (l.foldl (sweep1 th) s).1 x) := by
 induction l with
 | nil => exact fun F hN hT => ⟨hN, hT⟩
 | cons i l ih =>
  intro s F hN hT
  refine ih (F.sweep1 i) ?_ ((gr_sweep1 F i).todo hT)
  unfold sweep1
  split
  ·rename_i hc
   exact (gr_lead F _).2 N' hN (fun y hy => C _ (hN _ ⟨by omega, by rw [Int.add_sub_cancel]; exact hc.1⟩) y hy)
  ·exact hN
theorem sound_spr {th : List S43} {s s' : St} (h : Spr th s s') (N' : Int → Prop) (C : Closed th N') : ∀ (F : Fine th s) (hN : ∀ x, Nd s.1 x → N' x) (hT : ∀ x ∈ s.2, Nd s.1 x), ∀ x, Nd s'.1 x → N' x := by
 induction h with
 | nil _ => exact fun F hN hT => hN
 | step hz hd hs ih =>
  rename_i s s1 s'
  intro F hN hT
  obtain ⟨a, b⟩ := sound_drain hd N' C F hN hT
  obtain ⟨c, d⟩ := sound_sweeps N' C (List.range th.length) (hd.fine F) a b
  exact ih (fine_sweeps (hd.fine F) _).1 c d
theorem mono_drain {th : List S43} {s s' : St} (h : Drain th s s') : ∀ (F : Fine th s) x, Nd s.1 x → Nd s'.1 x := by
 induction h with
 | nil _ => exact fun F x hx => hx
 | step hz hd ih => exact fun F x hx => ih F.pop x ((gr_lead F.cut _).1.mono x hx)
theorem mono_sweeps {th : List S43} (l : List Nat) : ∀ {s : St} (F : Fine th s) x, Nd s.1 x → Nd (l.foldl (sweep1 th) s).1 x := by
 induction l with
 | nil => exact fun F x hx => hx
 | cons i l ih => exact fun F x hx => ih (F.sweep1 i) x ((gr_sweep1 F i).mono x hx)
theorem mono_spr {th : List S43} {s s' : St} (h : Spr th s s') : ∀ (F : Fine th s) x, Nd s.1 x → Nd s'.1 x := by
 induction h with
 | nil _ => exact fun F x hx => hx
 | step hz hd hs ih => exact fun F x hx => ih (fine_sweeps (hd.fine F) _).1 x (mono_sweeps _ (hd.fine F) x (mono_drain hd F x hx))
/-- THE LAW: what Strong tells is the least set that holds the roots and is closed -/
theorem strong_char {th : List S43} {rt : List S40} {mo : List Int} {r : List Bool} (h : StrongR th rt mo r) : r.length = th.length ∧ (∀ x, Root th rt mo x → Nd r x) ∧ Closed th (Nd r) ∧ ∀ N' : Int → Prop, (∀ x, Root th rt mo x → N' x) → Closed th N' → ∀ x, Nd r x → N' x := by
 refine ⟨h.len, ?_⟩
 obtain ⟨s', hs, rfl⟩ := h
 have F := fine_start th rt mo
 obtain ⟨at_, sp⟩ := start_spec th rt mo
 obtain ⟨cl, _⟩ := spr_closed hs F (fun x hx => .inl (at_ x hx)) (fun hz x hx => by have := at_ x hx; rw [hz] at this; cases this)
 refine ⟨fun x hx => mono_spr hs F x ((sp x).2 hx), cl, fun N' hR hC => ?_⟩
 refine sound_spr hs N' hC F (fun x hx => hR x ((sp x).1 hx)) ?_
 have h0 : ∀ x ∈ ((List.replicate th.length false, []) : St).2, Nd (List.replicate th.length false) x := fun x hx => nomatch hx
 exact ((gr_mores mo (fine_roots th rt)).1.todo ((gr_needs rt (fine0 th)).1.todo h0))
theorem drain_ex {th : List S43} : ∀ (n : Nat) (s : St), Fine th s → s.2.length + s.1.count false < n → ∃ s', Drain th s s'
 | 0, s, F, h => by omega
 | n + 1, s, F, h => by
  by_cases hz : s.2 = []
  ·exact ⟨s, .nil hz⟩
  ·have := less_pop F hz
   obtain ⟨s', hs⟩ := drain_ex n (popF th s) F.pop (by omega)
   exact ⟨s', .step hz hs⟩
theorem drain_less {th : List S43} {s s' : St} (h : Drain th s s') : ∀ (F : Fine th s), s'.2 = [] ∧ s'.1.count false ≤ s.1.count false := by
 induction h with
 | nil hz => exact fun F => ⟨hz, Nat.le_refl _⟩
 | step hz hd ih =>
  intro F
  obtain ⟨a, b⟩ := ih F.pop
  have := (less_pop F hz).2
  exact ⟨a, by omega⟩
theorem spr_ex {th : List S43} : ∀ (n : Nat) (s : St), Fine th s → nu s < n → ∃ s', Spr th s s'
 | 0, s, F, h => by omega
 | n + 1, s, F, h => by
  by_cases hz : s.2 = []
  ·exact ⟨s, .nil hz⟩
  ·obtain ⟨s1, hd⟩ := drain_ex _ s F (Nat.lt_succ_self _)
   obtain ⟨z, c⟩ := drain_less hd F
   have := nu_sweep hz z c (hd.fine F)
   obtain ⟨s', hs⟩ := spr_ex n (sweepF th s1) (fine_sweeps (hd.fine F) _).1 (by omega)
   exact ⟨s', .step hz hd hs⟩
theorem strongC_ex (th : List S43) (rt : List S40) (mo : List Int) : ∃ r, strongC th rt mo = some r ∧ StrongR th rt mo r := by
 obtain ⟨s', hs⟩ := spr_ex _ (startF th rt mo) (fine_start th rt mo) (Nat.lt_succ_self _)
 have : StrongR th rt mo s'.1 := ⟨s', hs, rfl⟩
 exact ⟨s'.1, strongC_of this, this⟩
end Go.Proofs.Ytollnnbcfhnlfaa.Rg
