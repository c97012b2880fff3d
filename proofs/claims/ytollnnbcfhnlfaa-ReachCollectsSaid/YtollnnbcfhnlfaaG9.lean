/- reach, part G9 of the hand texts (Jg, PS): what each part says stands at its head. -/
import Derived.Test.YtollnnbcfhnlfaaG7
import Derived.ProofKit
import Derived.OpenShut
import Derived.SizedLaws
import Derived.Lib.SmallJoins
import Derived.Test.YtollnnbcfhnlfaaG8
import Derived.Test.YtollnnbcfhnlfaaQRx3
/- reach: a graph that comes in, read out of its datum. -/
set_option linter.unusedVariables false
set_option linter.unusedSimpArgs false
namespace Go.Proofs.Ytollnnbcfhnlfaa.Jg
open Go Go.ChangeShapes Go.WideShapes Go.RowKit Go.Deep Go.Proofs.Ytollnnbcfhnlfaa.QR Go.Proofs.YtollnnbcfhnlfaaW.PrintWords
theorem list_of_each {α : Type} (P : Nat → α → Prop) : ∀ n : Nat, (∀ i, i < n → ∃ x, P i x) → ∃ l : List α, l.length = n ∧ ∀ i (h : i < l.length), P i (l[i]'h)
 | 0, _ => ⟨[], rfl, fun i h => absurd h (Nat.not_lt_zero _)⟩
 | n + 1, h => by
  obtain ⟨l, hl, hp⟩ := list_of_each P n (fun i hi => h i (by omega))
  obtain ⟨x, hx⟩ := h n (by omega)
  refine ⟨l ++ [x], by simp [hl], fun i hi => ?_⟩
  by_cases hin : i < l.length
  ·rw [List.getElem_append_left hin]; exact hp i hin
  ·have : i = l.length := by simp at hi; omega
   subst this
   rw [List.getElem_append_right (Nat.le_refl _)]
   simp only [Nat.sub_self, List.getElem_cons_zero]
   rw [hl]; exact hx
section
variable {H : Type} {enc : TypeId × Value → H} {w : World} {base : Nat} {spare : Nat → Bool} {held : Bool}
theorem take_at {cs : List Value} {k : Nat} {c : Value} (h : List.take 1 (List.drop k cs) = [c]) : cs[k]? = some c := by
 have := congrArg (fun l => l[0]?) h
 simpa [List.getElem?_take, List.getElem?_drop] using this
theorem cellsOf2 : Try.prog.cellsOf 2 = 1 := by kernel_rfl
theorem cellsOf3 : Try.prog.cellsOf 3 = 1 := by kernel_rfl
theorem cellsOf22 : Try.prog.cellsOf 22 = 1 := by kernel_rfl
theorem cellsOf23 : Try.prog.cellsOf 23 = 1 := by kernel_rfl
theorem cellsOf40 : Try.prog.cellsOf 40 = 2 := by kernel_rfl
theorem cellsOf43 : Try.prog.cellsOf 43 = 5 := by kernel_rfl
theorem cellsOf25 : Try.prog.cellsOf 25 = 2 := by kernel_rfl
theorem bytesOf40 : Try.prog.bytesOf 40 = 16 := by kernel_rfl
theorem bytesOf43 : Try.prog.bytesOf 43 = 56 := by kernel_rfl
theorem take_of {cs : List Value} {t k : Nat} {c : Value} (ht : Try.prog.cellsOf t = 1) (h : List.take (Try.prog.cellsOf t) (List.drop k cs) = [c]) : cs[k]? = some c := take_at (by rw [ht] at h; exact h)
set_option maxRecDepth 100000 in
theorem open_v {fuel : Nat} {cs : List Value} {x : DataW H × List MemPlace} (h : DataW.trod enc Try.prog w base spare held fuel 40 cs = some x) : ∃ v : S40, cs = [.int .i64 v.f0, .int .i64 v.f1] := by
 obtain ⟨xs, n, _, _, hcl, hl, hf⟩ := DataW.trod_struct Try.underlying40 h
 have hl : xs.length = 2 := hl
 rw [cellsOf40] at hcl
 match xs, hl with
 | [y0, y1], _ =>
  obtain ⟨t, e0, _, wt⟩ := DataW.trod_int Try.underlying3 (hf 0 _ rfl)
  obtain ⟨m, e1, _, wn⟩ := DataW.trod_int Try.underlying2 (hf 1 _ rfl)
  have c0 := take_of cellsOf3 (k := 0) e0
  have c1 := take_of cellsOf2 (k := 1) e1
  match cs, hcl with
  | [b0, b1], _ =>
   simp at c0 c1
   subst c0; subst c1
   exact ⟨⟨t, m⟩, rfl⟩
theorem open_slots {fuel : Nat} {cs : List Value} {x : DataW H × List MemPlace} (h : DataW.trod enc Try.prog w base spare held fuel 23 cs = some x) (hw : ∀ n ∈ x.1.weights Try.prog 23, n ≤ reachBytes) :
  ∃ (A : Option Addr) (c : Nat) (l : List S40), cs = [.slice A l.length c] ∧ l.length ≤ c ∧ Kd.C k40 w A l.length l ∧ l.length * 16 ≤ reachBytes := by
 rcases open_slice Try.underlying23 h with ⟨rfl, _⟩ | ⟨a, len, cap, m, n, D, Pl, rfl, _, hl, hcm, hm, rfl, hel⟩
 ·exact ⟨none, 0, [], rfl, Nat.le_refl _, Kd.C_nil _ _, by decide⟩
 ·obtain ⟨S, hv, hp⟩ := list_of_each (fun i (p : S40) => w.cells? base (a.add (i * 2)) 2 = some [.int .i64 p.f0, .int .i64 p.f1]) len (fun i hi => by
   obtain ⟨cs', h1, h2⟩ := hel i (by rw [hm]; split <;> omega)
   rw [cellsOf40] at h1
   obtain ⟨p, rfl⟩ := open_v h2
   exact ⟨p, h1⟩)
  have hw1 := hw ((len + (m - len)) * 16) (by
   show _ ∈ DataW.weights Try.prog 23 (.slice _ _)
   unfold DataW.weights
   rw [Try.underlying23]
   simp [bytesOf40])
  have hml : maxLen = 9223372036854775807 := by decide
  refine ⟨some a, cap, S, by rw [hv], by omega, ⟨rfl, by omega, fun _ => ⟨a, rfl, fun j p hj => ?_⟩⟩, by rw [hv]; exact Nat.le_trans (Nat.mul_le_mul_right _ (Nat.le_add_right _ _)) hw1⟩
  obtain ⟨hj1, rfl⟩ := List.getElem?_eq_some_iff.1 hj
  have hb := hp j hj1
  obtain ⟨_, hlen, hcell⟩ := World.cells?_some hb
  refine ⟨_, rfl, k40_mk w _, fun i u hu => ?_⟩
  have hi := (List.getElem?_eq_some_iff.1 hu).1
  have := (hcell i hi).trans hu
  rwa [Deep.add_add] at this
set_option maxRecDepth 100000 in
theorem open_thing {fuel : Nat} {cs : List Value} {x : DataW H × List MemPlace} (h : DataW.trod enc Try.prog w base spare held fuel 43 cs = some x) (hw : ∀ n ∈ x.1.weights Try.prog 43, n ≤ reachBytes) :
  ∃ (p : S43) (A : Option Addr) (c : Nat), cs = [.int .i64 p.f0, .int .i64 p.f1, .int .i64 p.f2, .slice A p.f3.length c, .int .i64 p.f4] ∧ p.f3.length ≤ c ∧ Kd.C k40 w A p.f3.length p.f3 ∧ p.f3.length * 16 ≤ reachBytes ∧ (Lit.int .i64 p.f4).wf = true := by
 obtain ⟨xs, n, _, rfl, hcl, hl, hf⟩ := DataW.trod_struct Try.underlying43 h
 have hl : xs.length = 5 := hl
 rw [cellsOf43] at hcl
 match xs, hl with
 | [y0, y1, y2, y3, y4], _ =>
  obtain ⟨q0, e0, _, _⟩ := DataW.trod_int Try.underlying3 (hf 0 _ rfl)
  obtain ⟨q1, e1, _, _⟩ := DataW.trod_int Try.underlying3 (hf 1 _ rfl)
  obtain ⟨q2, e2, _, _⟩ := DataW.trod_int Try.underlying3 (hf 2 _ rfl)
  obtain ⟨A, c, l, e3, hlc, hC, hb⟩ := open_slots (hf 3 _ rfl) (fun m hm => hw m (by
   show _ ∈ DataW.weights Try.prog 43 (.agg _)
   unfold DataW.weights
   rw [Try.underlying43]
   exact DataW.weights_mem_each (j := 3) rfl rfl m hm))
  obtain ⟨q4, e4, _, w4⟩ := DataW.trod_int Try.underlying3 (hf 4 _ rfl)
  have c0 := take_of cellsOf3 (k := 0) e0
  have c1 := take_of cellsOf3 (k := 1) e1
  have c2 := take_of cellsOf3 (k := 2) e2
  have c3 := take_of cellsOf23 (k := 3) e3
  have c4 := take_of cellsOf3 (k := 4) e4
  refine ⟨⟨q0, q1, q2, l, q4⟩, A, c, ?_, hlc, hC, hb, w4⟩
  match cs, hcl with
  | [b0, b1, b2, b3, b4], _ =>
   simp at c0 c1 c2 c3 c4
   subst c0; subst c1; subst c2; subst c3; subst c4
   rfl
theorem weights_mem_all {P : Program} {e : TypeId} : ∀ {ds : List (DataW H)} {j : Nat} {d : DataW H}, ds[j]? = some d → ∀ n ∈ d.weights P e, n ∈ DataW.weightsAll P e ds
 | [], _, _, h, _, _ => by simp at h
 | d :: r, 0, _, h, n, hn => by simp at h; subst h; unfold DataW.weightsAll; exact List.mem_append_left _ hn
 | d :: r, j + 1, _, h, n, hn => by simp at h; unfold DataW.weightsAll; exact List.mem_append_right _ (weights_mem_all h n hn)
/-- how large what comes in may be -/
def Sz (th : List S43) (rt : List S40) : Prop := th.length * 56 ≤ reachBytes ∧ rt.length * 16 ≤ reachBytes ∧ ∀ t ∈ th, t.f3.length * 16 ≤ reachBytes ∧ (Lit.int .i64 t.f4).wf = true
theorem open_things {fuel : Nat} {cs : List Value} {x : DataW H × List MemPlace} (h : DataW.trod enc Try.prog w base spare held fuel 22 cs = some x) (hw : ∀ n ∈ x.1.weights Try.prog 22, n ≤ reachBytes) :
  ∃ (A : Option Addr) (c : Nat) (l : List S43), cs = [.slice A l.length c] ∧ l.length ≤ c ∧ Kd.C k43 w A l.length l ∧ l.length * 56 ≤ reachBytes ∧ ∀ t ∈ l, t.f3.length * 16 ≤ reachBytes ∧ (Lit.int .i64 t.f4).wf = true := by
 rcases open_slice Try.underlying22 h with ⟨rfl, _⟩ | ⟨a, len, cap, m, n, D, Pl, rfl, _, hl, hcm, hm, rfl, hel⟩
 ·exact ⟨none, 0, [], rfl, Nat.le_refl _, Kd.C_nil _ _, by decide, fun x hx => nomatch hx⟩
 ·have hwd : ∀ i, i < len → ∀ q ∈ (D i).weights Try.prog 43, q ≤ reachBytes := fun i hi q hq => hw q (by
   show _ ∈ DataW.weights Try.prog 22 (.slice _ _)
   unfold DataW.weights
   rw [Try.underlying22]
   refine List.mem_cons_of_mem _ (List.mem_append_left _ (weights_mem_all (j := i) ?_ q hq))
   simp [hi])
  have hw1 := hw ((len + (m - len)) * 56) (by
   show _ ∈ DataW.weights Try.prog 22 (.slice _ _)
   unfold DataW.weights
   rw [Try.underlying22]
   simp [bytesOf43])
  obtain ⟨S, hv, hp⟩ := list_of_each (fun i (p : S43) => ∃ (A : Option Addr) (c : Nat), w.cells? base (a.add (i * 5)) 5 = some [.int .i64 p.f0, .int .i64 p.f1, .int .i64 p.f2, .slice A p.f3.length c, .int .i64 p.f4] ∧ p.f3.length ≤ c ∧ Kd.C k40 w A p.f3.length p.f3 ∧ p.f3.length * 16 ≤ reachBytes ∧ (Lit.int .i64 p.f4).wf = true) len (fun i hi => by
   obtain ⟨cs', h1, h2⟩ := hel i (by rw [hm]; split <;> omega)
   rw [cellsOf43] at h1
   obtain ⟨p, A, c, rfl, hb⟩ := open_thing h2 (hwd i hi)
   exact ⟨p, A, c, h1, hb⟩)
  have hml : maxLen = 9223372036854775807 := by decide
  refine ⟨some a, cap, S, by rw [hv], by omega, ⟨rfl, by omega, fun _ => ⟨a, rfl, fun j p hj => ?_⟩⟩, by rw [hv]; exact Nat.le_trans (Nat.mul_le_mul_right _ (Nat.le_add_right _ _)) hw1, fun t ht => ?_⟩
  ·obtain ⟨hj1, rfl⟩ := List.getElem?_eq_some_iff.1 hj
   obtain ⟨A, c, hb, hlc, hC, _⟩ := hp j hj1
   obtain ⟨_, hlen, hcell⟩ := World.cells?_some hb
   refine ⟨_, rfl, k43_mk w _ hlc hC, fun i u hu => ?_⟩
   have hi := (List.getElem?_eq_some_iff.1 hu).1
   have := (hcell i hi).trans hu
   rwa [Deep.add_add] at this
  ·obtain ⟨j, hj, rfl⟩ := List.mem_iff_getElem.1 ht
   obtain ⟨_, _, _, _, _, hb⟩ := hp j hj
   exact hb
set_option maxRecDepth 100000 in
theorem open_graph {fuel : Nat} {cs : List Value} {x : DataW H × List MemPlace} (h : DataW.trod enc Try.prog w base spare held fuel 25 cs = some x) (hw : ∀ n ∈ x.1.weights Try.prog 25, n ≤ reachBytes) :
  ∃ (A0 : Option Addr) (c0 : Nat) (th : List S43) (A1 : Option Addr) (c1 : Nat) (rt : List S40), cs = [.slice A0 th.length c0, .slice A1 rt.length c1] ∧ th.length ≤ c0 ∧ Kd.C k43 w A0 th.length th ∧ rt.length ≤ c1 ∧ Kd.C k40 w A1 rt.length rt ∧ Sz th rt := by
 obtain ⟨xs, n, _, rfl, hcl, hl, hf⟩ := DataW.trod_struct Try.underlying25 h
 have hl : xs.length = 2 := hl
 rw [cellsOf25] at hcl
 match xs, hl with
 | [y0, y1], _ =>
  obtain ⟨A0, c0, th, e0, l0, C0, b0, s0⟩ := open_things (hf 0 _ rfl) (fun m hm => hw m (by
   show _ ∈ DataW.weights Try.prog 25 (.agg _)
   unfold DataW.weights
   rw [Try.underlying25]
   exact DataW.weights_mem_each (j := 0) rfl rfl m hm))
  obtain ⟨A1, c1, rt, e1, l1, C1, b1⟩ := open_slots (hf 1 _ rfl) (fun m hm => hw m (by
   show _ ∈ DataW.weights Try.prog 25 (.agg _)
   unfold DataW.weights
   rw [Try.underlying25]
   exact DataW.weights_mem_each (j := 1) rfl rfl m hm))
  have d0 := take_of cellsOf22 (k := 0) e0
  have d1 := take_of cellsOf23 (k := 1) e1
  refine ⟨A0, c0, th, A1, c1, rt, ?_, l0, C0, l1, C1, b0, b1, s0⟩
  match cs, hcl with
  | [x0, x1], _ =>
   simp at d0 d1
   subst d0; subst d1
   rfl
end
end Go.Proofs.Ytollnnbcfhnlfaa.Jg

/- reach, plain: the guard Small, and the example that must come. -/
set_option linter.unusedVariables false
set_option linter.unusedSimpArgs false
namespace Go.Proofs.Ytollnnbcfhnlfaa.Pure
open Go Go.RowKit Go.Proofs.Ytollnnbcfhnlfaa.QR Go.Proofs.Ytollnnbcfhnlfaa.Rg Go.Proofs.Ytollnnbcfhnlfaa.Jg Go.Proofs.YtollnnbcfhnlfaaW.PrintWords Go.Proofs.YtollnnbcfhnlfaaW.PrintLast Go.Proofs.YtollnnbcfhnlfaaW.PrintMore
theorem alive_f : heirloomlaw11_alive.f = some true := by kernel_rfl
theorem w64 {x : Int} (h : -9223372036854775808 ≤ x) (h' : x ≤ 9223372036854775807) : wrap64 x = x := w64i_ h h'
def sumT (th : List S43) (i : Nat) : Nat := ((th.take i).map (fun t => t.f3.length)).sum
theorem sumT_succ (th : List S43) (i : Nat) (h : i < th.length) : sumT th (i + 1) = sumT th i + th[i].f3.length := by
 unfold sumT
 rw [List.take_add_one, List.map_append, List.sum_append, List.getElem?_eq_getElem h]
 simp
theorem reach_le : reachBytes ≤ 140737488355328 := by decide
theorem sumT_le (th : List S43) (hs : ∀ t ∈ th, t.f3.length * 16 ≤ reachBytes) : ∀ i, i ≤ th.length → sumT th i ≤ i * 8796093022208
 | 0, _ => by simp [sumT]
 | i + 1, h => by
  have := sumT_le th hs i (by omega)
  rw [sumT_succ th i (by omega)]
  have h2 := hs _ (List.getElem_mem (show i < th.length by omega))
  have h3 := reach_le
  omega
theorem sumT_part (th : List S43) : ∀ i, i ≤ th.length → ∀ j (hl : j < th.length), j < i → th[j].f3.length ≤ sumT th i
 | 0, _, j, _, h => by omega
 | i + 1, hi, j, hl, h => by
  rw [sumT_succ th i (by omega)]
  rcases Nat.lt_or_ge j i with hj | hj
  ·have := sumT_part th i (by omega) j hl hj
   omega
  ·have : j = i := by omega
   subst this
   omega
def smallB (th : List S43) (rt : List S40) : Bool := decide (th.length ≤ 60) && decide (rt.length + sumT th (min th.length 61) ≤ 600)
theorem small_l0 (th : List S43) (rt : List S40) (hz : Sz th rt) : ∀ (d i k : Nat), 61 - i = d → i ≤ 61 → i ≤ th.length → d < k → heirloomlaw11_Small.l0 k ((rt.length : Int) + (sumT th i : Nat)) (i : Int) th rt = some (smallB th rt)
 | d, i, 0, _, _, _, hk => by omega
 | d, i, k + 1, hd, hi, hl, hk => by
  have h1 := sumT_le th (fun t ht => (hz.2.2 t ht).1) i hl
  have h2 := hz.2.1
  have h3 := reach_le
  rw [heirloomlaw11_Small.l0]
  by_cases c : i < th.length
  ·rw [if_pos (by omega)]
   by_cases c2 : i ≤ 60
   ·rw [if_pos (by omega), if_pos (by omega)]
    have hr : rd_T43 th (i : Int) = th[i] := rd43_get c
    have h4 := (hz.2.2 _ (List.getElem_mem c)).1
    rw [hr, w64 (by omega) (by omega), w64 (by omega) (by omega)]
    have := small_l0 th rt hz (d - 1) (i + 1) k (by omega) (by omega) (by omega) (by omega)
    rw [sumT_succ th i c] at this
    have e : ((rt.length : Int) + (sumT th i : Nat)) + ((th[i].f3).length : Int) = (rt.length : Int) + ((sumT th i + th[i].f3.length : Nat) : Int) := by omega
    rw [e]
    exact this
   ·rw [if_neg (by omega), if_neg (by omega)]
    unfold smallB
    rw [decide_eq_false (show ¬ th.length ≤ 60 by omega)]
    rfl
  ·rw [if_neg (by omega)]
   by_cases c3 : th.length ≤ 60
   ·rw [if_pos (by omega)]
    unfold smallB
    rw [decide_eq_true c3, show min th.length 61 = i by omega, Bool.true_and]
    congr 1
    rw [decide_eq_decide]
    omega
   ·rw [if_neg (by omega)]
    unfold smallB
    rw [decide_eq_false c3]
    rfl
theorem small_f (th : List S43) (rt : List S40) (hz : Sz th rt) (k : Nat) (hk : 62 ≤ k) : heirloomlaw11_Small.f k th rt = some (smallB th rt) := by
 have := small_l0 th rt hz 61 0 k rfl (by omega) (by omega) (by omega)
 unfold heirloomlaw11_Small.f
 simpa [sumT] using this
theorem small_bnd {th : List S43} {rt : List S40} (h : smallB th rt = true) : th.length ≤ 60 ∧ (∀ t ∈ th, t.f3.length ≤ 600) ∧ rt.length ≤ 600 := by
 unfold smallB at h
 simp only [Bool.and_eq_true, decide_eq_true_eq] at h
 obtain ⟨h1, h2⟩ := h
 rw [show min th.length 61 = th.length by omega] at h2
 refine ⟨h1, fun t ht => ?_, by omega⟩
 obtain ⟨j, hj, rfl⟩ := List.mem_iff_getElem.1 ht
 have := sumT_part th th.length (Nat.le_refl _) j hj hj
 omega
theorem bnd_mk {th : List S43} {rt : List S40} (h1 : th.length ≤ 60) (h2 : ∀ t ∈ th, t.f3.length ≤ 600) (h3 : rt.length ≤ 601) : bnd th rt = true := by
 unfold bnd
 simp only [Bool.and_eq_true, decide_eq_true_eq, List.all_eq_true]
 exact ⟨⟨by omega, fun t ht => by have := h2 t ht; omega⟩, by omega⟩
theorem strong_f (th : List S43) (rt : List S40) (mo : List Int) (hb : bnd th rt = true) (hm : mo.length ≤ 1000000) : ∃ r, reach_Strong.f th rt mo = some r ∧ StrongR th rt mo r := by
 obtain ⟨r, h1, h2⟩ := strongC_ex th rt mo
 refine ⟨r, ?_, h2⟩
 unfold reach_Strong.f
 rw [if_pos ⟨hb, hm⟩]
 exact h1
end Go.Proofs.Ytollnnbcfhnlfaa.Pure
