/- A view that comes in: what lies where, out of its datum. -/
import Derived.Test.YtpdhmfbpmbbmgaaSm
import Derived.Lib.SmallJoins
import Derived.SizedLaws
set_option linter.unusedVariables false
set_option linter.unusedSimpArgs false
namespace Go.Proofs.Ytpdhmfbpmbbmgaa.Mp
open Go.RowKit Go.Shelf Go.Joins Go.Deep
theorem list_of_each {α : Type} (P : Nat → α → Prop) : ∀ n : Nat, (∀ i, i < n → ∃ x, P i x) → ∃ l : List α, l.length = n ∧ ∀ i (h : i < l.length), P i (l[i]'h)
  | 0, _ => ⟨[], rfl, fun i h => absurd h (Nat.not_lt_zero _)⟩
  | n + 1, h => by
    obtain ⟨l, hl, hp⟩ := list_of_each P n (fun i hi => h i (by omega))
    obtain ⟨x, hx⟩ := h n (by omega)
    refine ⟨l ++ [x], by simp [hl], fun i hi => ?_⟩
    by_cases hin : i < l.length
    · rw [List.getElem_append_left hin]; exact hp i hin
    · have : i = l.length := by simp at hi; omega
      subst this
      rw [List.getElem_append_right (Nat.le_refl _)]
      simp only [Nat.sub_self, List.getElem_cons_zero]
      rw [hl]; exact hx
/-- what is read of an object that comes in -/
structure Inp where
  kind : Int
  wk : (Lit.int .i64 kind).wf = true
  sa : Option Addr
  sc : Nat
  vals : List Vl
/-- what lies in the slots of an object that comes in -/
def SlIn (w : World) (sa : Option Addr) (vals : List Vl) : Prop :=
  vals = [] ∨ ∃ b off, sa = some ⟨b, off, none⟩ ∧ b < w.heap.size ∧ ∀ k (h : k < vals.length), w.cell? ⟨b, off + k * 2, none⟩ = some (.int .i64 (vals[k]'h).t) ∧ w.cell? ⟨b, off + k * 2 + 1, none⟩ = some (.int .i64 (vals[k]'h).n)
section
variable {H : Type} {enc : TypeId × Value → H} {w : World} {base : Nat} {spare : Nat → Bool} {held : Bool}
theorem take_at {cs : List Value} {k : Nat} {c : Value} (h : List.take 1 (List.drop k cs) = [c]) : cs[k]? = some c := by
  have := congrArg (fun l => l[0]?) h
  simpa [List.getElem?_take, List.getElem?_drop] using this
theorem open_val {fuel : Nat} {cs : List Value} {x : DataW H × List MemPlace} (h : DataW.trod enc Try.prog w base spare held fuel 38 cs = some x) : ∃ v : Vl, cs[0]? = some (.int .i64 v.t) ∧ cs[1]? = some (.int .i64 v.n) := by
  obtain ⟨xs, n, _, _, _, hl, hf⟩ := DataW.trod_struct Try.underlying38 h
  have hl : xs.length = 2 := hl
  match xs, hl with
  | [y0, y1], _ =>
    obtain ⟨t, e0, _, wt⟩ := DataW.trod_int Try.underlying3 (hf 0 _ rfl)
    obtain ⟨m, e1, _, wn⟩ := DataW.trod_int Try.underlying2 (hf 1 _ rfl)
    exact ⟨⟨t, m, wt, wn⟩, take_at (k := 0) e0, take_at (k := 1) e1⟩
theorem cellsOf38 : Try.prog.cellsOf 38 = 2 := by kernel_rfl
theorem cellsOf36 : Try.prog.cellsOf 36 = 8 := by kernel_rfl
theorem bytesOf38 : Try.prog.bytesOf 38 = 16 := by kernel_rfl
theorem bytesOf36 : Try.prog.bytesOf 36 = 80 := by kernel_rfl
theorem bytesOf3 : Try.prog.bytesOf 3 = 8 := by kernel_rfl
theorem add_none (b off i : Nat) : (⟨b, off, none⟩ : Addr).add i = ⟨b, off + i, none⟩ := by
  unfold Addr.add
  split
  · subst_vars; rfl
  · rfl
theorem add_spot {w : World} {a : Addr} {i : Nat} {v : Value} (h : w.cell? (a.add 0) = some v) : a.add i = ⟨a.block, a.off + i, none⟩ := by
  have : a.spot = none := by
    unfold Addr.add at h
    rw [if_pos rfl] at h
    unfold World.cell? at h
    split at h
    · split at h
      · cases h
      · rename_i q; simpa using q
    · cases h
  cases a
  simp at this
  subst this
  exact add_none _ _ _
theorem cell_lt' {w : World} {b j : Nat} {s : Option Nat} {u : Value} (hb : w.cell? ⟨b, j, s⟩ = some u) : b < w.heap.size := by
  unfold World.cell? at hb
  split at hb
  · rename_i q; exact (Array.getElem?_eq_some_iff.1 q).1
  · cases hb
theorem open_vals {fuel : Nat} {cs : List Value} {x : DataW H × List MemPlace} (h : DataW.trod enc Try.prog w base spare held fuel 32 cs = some x) (hw : ∀ n ∈ x.1.weights Try.prog 32, n ≤ reachBytes) :
    ∃ sa sc vals, cs = [.slice sa vals.length sc] ∧ SlIn w sa vals ∧ vals.length * 16 ≤ reachBytes := by
  rcases open_slice Try.underlying32 h with ⟨rfl, _⟩ | ⟨a, len, cap, m, n, D, Pl, rfl, _, hl, _, hm, rfl, hel⟩
  · exact ⟨none, 0, [], rfl, .inl rfl, by decide⟩
  · obtain ⟨vals, hv, hp⟩ := list_of_each (fun i (v : Vl) => w.cell? (a.add (i * 2)) = some (.int .i64 v.t) ∧ w.cell? (a.add (i * 2 + 1)) = some (.int .i64 v.n)) len (fun i hi => by
      obtain ⟨cs', h1, h2⟩ := hel i (by rw [hm]; split <;> omega)
      rw [cellsOf38] at h1
      obtain ⟨_, hcl, hc⟩ := World.cells?_some h1
      obtain ⟨v, e0, e1⟩ := open_val h2
      refine ⟨v, ?_, ?_⟩
      · have := (hc 0 (by omega)).trans e0
        rwa [add_add, Nat.add_zero] at this
      · have := (hc 1 (by omega)).trans e1
        rwa [add_add] at this)
    have hw1 := hw ((len + (m - len)) * 16) (by
      show _ ∈ DataW.weights Try.prog 32 (.slice _ _)
      unfold DataW.weights
      rw [Try.underlying32]
      simp [bytesOf38])
    refine ⟨some a, cap, vals, by rw [hv], ?_, by rw [hv]; exact Nat.le_trans (Nat.mul_le_mul_right _ (Nat.le_add_right _ _)) hw1⟩
    cases vals with
    | nil => exact .inl rfl
    | cons v vs =>
      have h0 := (hp 0 (by simp)).1
      rw [Nat.zero_mul] at h0
      have hs := fun i => add_spot (i := i) h0
      refine .inr ⟨a.block, a.off, ?_, ?_, fun k hk => ?_⟩
      · have := hs 0
        unfold Addr.add at this
        rw [if_pos rfl, Nat.add_zero] at this
        rw [← this]
      · rw [hs] at h0; exact cell_lt' h0
      · obtain ⟨q0, q1⟩ := hp k hk
        rw [hs] at q0 q1
        exact ⟨q0, q1⟩
theorem open_thing {fuel : Nat} {cs : List Value} {x : DataW H × List MemPlace} (h : DataW.trod enc Try.prog w base spare held fuel 34 cs = some x) (hw : ∀ n ∈ x.1.weights Try.prog 34, n ≤ reachBytes) :
    ∃ p : Inp, cs[0]? = some (.int .i64 p.kind) ∧ cs[3]? = some (.slice p.sa p.vals.length p.sc) ∧ SlIn w p.sa p.vals ∧ p.vals.length * 16 ≤ reachBytes := by
  obtain ⟨xs, n, _, rfl, _, hl, hf⟩ := DataW.trod_struct Try.underlying34 h
  have hl : xs.length = 5 := hl
  match xs, hl with
  | [y0, y1, y2, y3, y4], _ =>
    obtain ⟨k, e0, _, wk⟩ := DataW.trod_int Try.underlying3 (hf 0 _ rfl)
    obtain ⟨sa, sc, vals, e3, hs, hb⟩ := open_vals (hf 3 _ rfl) (fun m hm => hw m (by
      show _ ∈ DataW.weights Try.prog 34 (.agg _)
      unfold DataW.weights
      rw [Try.underlying34]
      exact DataW.weights_mem_each (j := 3) rfl rfl m hm))
    exact ⟨⟨k, wk, sa, sc, vals⟩, take_at (k := 0) e0, take_at (k := 3) e3, hs, hb⟩
theorem cellsOf34 : Try.prog.cellsOf 34 = 5 := by kernel_rfl
theorem cellsOf27 : Try.prog.cellsOf 27 = 1 := by kernel_rfl
theorem cellsOf28 : Try.prog.cellsOf 28 = 1 := by kernel_rfl
theorem cellsOf30 : Try.prog.cellsOf 30 = 7 := by kernel_rfl
theorem take_at' {cs : List Value} {k n i : Nat} {c : Value} (h : (List.take n (List.drop k cs))[i]? = some c) : cs[k + i]? = some c := by
  rw [List.getElem?_take] at h
  split at h
  · rwa [List.getElem?_drop] at h
  · cases h
theorem open_seen {fuel : Nat} {cs : List Value} {x : DataW H × List MemPlace} (h : DataW.trod enc Try.prog w base spare held fuel 36 cs = some x) (hw : ∀ n ∈ x.1.weights Try.prog 36, n ≤ reachBytes) :
    ∃ p : Inp, cs[1]? = some (.int .i64 p.kind) ∧ cs[4]? = some (.slice p.sa p.vals.length p.sc) ∧ SlIn w p.sa p.vals ∧ p.vals.length * 16 ≤ reachBytes := by
  obtain ⟨xs, n, _, rfl, _, hl, hf⟩ := DataW.trod_struct Try.underlying36 h
  have hl : xs.length = 4 := hl
  match xs, hl with
  | [y0, y1, y2, y3], _ =>
    obtain ⟨p, e0, e3, hs, hb⟩ := open_thing (hf 1 _ rfl) (fun m hm => hw m (by
      show _ ∈ DataW.weights Try.prog 36 (.agg _)
      unfold DataW.weights
      rw [Try.underlying36]
      exact DataW.weights_mem_each (j := 1) rfl rfl m hm))
    exact ⟨p, take_at' (k := 1) (i := 0) e0, take_at' (k := 1) (i := 3) e3, hs, hb⟩
/-- the objects that come in -/
def SeenIn (w : World) (a : Option Addr) (S : List Inp) : Prop :=
  (S = [] ∨ ∃ b off, a = some ⟨b, off, none⟩ ∧ b < w.heap.size ∧ ∀ k (h : k < S.length), w.cell? ⟨b, off + k * 8 + 1, none⟩ = some (.int .i64 (S[k]'h).kind) ∧ w.cell? ⟨b, off + k * 8 + 4, none⟩ = some (.slice (S[k]'h).sa (S[k]'h).vals.length (S[k]'h).sc)) ∧
  ∀ k (h : k < S.length), SlIn w (S[k]'h).sa (S[k]'h).vals ∧ (S[k]'h).vals.length * 16 ≤ reachBytes
theorem weights_mem_all {P : Program} {e : TypeId} : ∀ {ds : List (DataW H)} {j : Nat} {d : DataW H}, ds[j]? = some d → ∀ n ∈ d.weights P e, n ∈ DataW.weightsAll P e ds
  | [], _, _, h, _, _ => by simp at h
  | d :: r, 0, _, h, n, hn => by simp at h; subst h; unfold DataW.weightsAll; exact List.mem_append_left _ hn
  | d :: r, j + 1, _, h, n, hn => by simp at h; unfold DataW.weightsAll; exact List.mem_append_right _ (weights_mem_all h n hn)
theorem open_seens {fuel : Nat} {cs : List Value} {x : DataW H × List MemPlace} (h : DataW.trod enc Try.prog w base spare held fuel 27 cs = some x) (hw : ∀ n ∈ x.1.weights Try.prog 27, n ≤ reachBytes) :
    ∃ sa sc S, cs = [.slice sa S.length sc] ∧ SeenIn w sa S ∧ S.length * 80 ≤ reachBytes := by
  rcases open_slice Try.underlying27 h with ⟨rfl, _⟩ | ⟨a, len, cap, m, n, D, Pl, rfl, _, hl, _, hm, rfl, hel⟩
  · exact ⟨none, 0, [], rfl, ⟨.inl rfl, fun k hk => absurd hk (Nat.not_lt_zero _)⟩, by decide⟩
  · have hwd : ∀ i, i < len → ∀ q ∈ (D i).weights Try.prog 36, q ≤ reachBytes := fun i hi q hq => hw q (by
      show _ ∈ DataW.weights Try.prog 27 (.slice _ _)
      unfold DataW.weights
      rw [Try.underlying27]
      refine List.mem_cons_of_mem _ (List.mem_append_left _ (weights_mem_all (j := i) ?_ q hq))
      simp [hi])
    obtain ⟨S, hv, hp⟩ := list_of_each (fun i (p : Inp) => (w.cell? (a.add (i * 8)) ≠ none ∧ w.cell? (a.add (i * 8 + 1)) = some (.int .i64 p.kind) ∧ w.cell? (a.add (i * 8 + 4)) = some (.slice p.sa p.vals.length p.sc)) ∧ SlIn w p.sa p.vals ∧ p.vals.length * 16 ≤ reachBytes) len (fun i hi => by
      obtain ⟨cs', h1, h2⟩ := hel i (by rw [hm]; split <;> omega)
      rw [cellsOf36] at h1
      obtain ⟨_, hcl, hc⟩ := World.cells?_some h1
      obtain ⟨p, e1, e4, hs, hb⟩ := open_seen h2 (hwd i hi)
      refine ⟨p, ⟨?_, ?_, ?_⟩, hs, hb⟩
      · have := hc 0 (by omega)
        rw [add_add, Nat.add_zero] at this
        rw [this, List.getElem?_eq_getElem (by omega)]
        simp
      · have := (hc 1 (by omega)).trans e1
        rwa [add_add] at this
      · have := (hc 4 (by omega)).trans e4
        rwa [add_add] at this)
    have hw1 := hw ((len + (m - len)) * 80) (by
      show _ ∈ DataW.weights Try.prog 27 (.slice _ _)
      unfold DataW.weights
      rw [Try.underlying27]
      simp [bytesOf36])
    refine ⟨some a, cap, S, by rw [hv], ⟨?_, fun k hk => (hp k hk).2⟩, by rw [hv]; exact Nat.le_trans (Nat.mul_le_mul_right _ (Nat.le_add_right _ _)) hw1⟩
    cases S with
    | nil => exact .inl rfl
    | cons v vs =>
      have h0 := (hp 0 (by simp)).1.1
      rw [Nat.zero_mul] at h0
      obtain ⟨u, hu⟩ := Option.ne_none_iff_exists'.1 h0
      have hs := fun i => add_spot (i := i) hu
      refine .inr ⟨a.block, a.off, ?_, ?_, fun k hk => ?_⟩
      · have := hs 0
        unfold Addr.add at this
        rw [if_pos rfl, Nat.add_zero] at this
        rw [← this]
      · rw [hs] at hu; exact cell_lt' hu
      · obtain ⟨⟨_, q0, q1⟩, _⟩ := hp k hk
        rw [hs] at q0 q1
        exact ⟨q0, q1⟩
theorem open_ints8 {fuel : Nat} {cs : List Value} {x : DataW H × List MemPlace} (h : DataW.trod enc Try.prog w base spare held fuel 28 cs = some x) (hw : ∀ n ∈ x.1.weights Try.prog 28, n ≤ reachBytes) :
    ∃ sa sc n, cs = [.slice sa n sc] ∧ n * 8 ≤ reachBytes := by
  rcases open_slice Try.underlying28 h with ⟨rfl, _⟩ | ⟨a, len, cap, m, n, D, Pl, rfl, _, hl, _, hm, rfl, hel⟩
  · exact ⟨none, 0, 0, rfl, by decide⟩
  · have hw1 := hw ((len + (m - len)) * 8) (by
      show _ ∈ DataW.weights Try.prog 28 (.slice _ _)
      unfold DataW.weights
      rw [Try.underlying28]
      simp [bytesOf3])
    exact ⟨_, _, _, rfl, Nat.le_trans (Nat.mul_le_mul_right _ (Nat.le_add_right _ _)) hw1⟩
theorem seven {cs : List Value} (h : cs.length = 7) : ∃ c0 c1 c2 c3 c4 c5 c6, cs = [c0, c1, c2, c3, c4, c5, c6] := by
  match cs, h with
  | [c0, c1, c2, c3, c4, c5, c6], _ => exact ⟨c0, c1, c2, c3, c4, c5, c6, rfl⟩
theorem open_view {fuel : Nat} {cs : List Value} {x : DataW H × List MemPlace} (h : DataW.trod enc Try.prog w base spare held fuel 30 cs = some x) (hw : ∀ n ∈ x.1.weights Try.prog 30, n ≤ reachBytes) :
    ∃ m ph wh a3 c3 S a4 n4 c4 a5 n5 c5 a6 n6 c6, cs = [.int .i64 m, .int .i64 ph, .int .i64 wh, .slice a3 S.length c3, .slice a4 n4 c4, .slice a5 n5 c5, .slice a6 n6 c6] ∧ SeenIn w a3 S ∧ S.length * 80 ≤ reachBytes ∧ n5 * 8 ≤ reachBytes := by
  obtain ⟨xs, n, _, rfl, hcl, hl, hf⟩ := DataW.trod_struct Try.underlying30 h
  rw [cellsOf30] at hcl
  obtain ⟨c0, c1, c2, c3, c4, c5, c6, rfl⟩ := seven hcl
  have hl : xs.length = 7 := hl
  match xs, hl with
  | [y0, y1, y2, y3, y4, y5, y6], _ =>
    have hws : ∀ (j : Nat) (t : TypeId) (d : DataW H), [3, 3, 3, 27, 28, 28, 28][j]? = some t → [y0.1, y1.1, y2.1, y3.1, y4.1, y5.1, y6.1][j]? = some d → ∀ q ∈ d.weights Try.prog t, q ≤ reachBytes := fun j t d ht hd q hq => hw q (by
      show _ ∈ DataW.weights Try.prog 30 (.agg _)
      unfold DataW.weights
      rw [Try.underlying30]
      exact DataW.weights_mem_each (j := j) ht hd q hq)
    obtain ⟨m, e0, _, _⟩ := DataW.trod_int Try.underlying3 (hf 0 _ rfl)
    obtain ⟨ph, e1, _, _⟩ := DataW.trod_int Try.underlying3 (hf 1 _ rfl)
    obtain ⟨wh, e2, _, _⟩ := DataW.trod_int Try.underlying3 (hf 2 _ rfl)
    obtain ⟨a3, k3, S, e3, hS, hb⟩ := open_seens (hf 3 _ rfl) (hws 3 _ _ rfl rfl)
    obtain ⟨a4, k4, n4, e4, _⟩ := open_ints8 (hf 4 _ rfl) (hws 4 _ _ rfl rfl)
    obtain ⟨a5, k5, n5, e5, hb5⟩ := open_ints8 (hf 5 _ rfl) (hws 5 _ _ rfl rfl)
    obtain ⟨a6, k6, n6, e6, _⟩ := open_ints8 (hf 6 _ rfl) (hws 6 _ _ rfl rfl)
    have g0 := take_at (k := 0) e0
    have g1 := take_at (k := 1) e1
    have g2 := take_at (k := 2) e2
    have g3 := take_at (k := 3) e3
    have g4 := take_at (k := 4) e4
    have g5 := take_at (k := 5) e5
    have g6 := take_at (k := 6) e6
    simp at g0 g1 g2 g3 g4 g5 g6
    subst g0 g1 g2 g3 g4 g5 g6
    exact ⟨m, ph, wh, a3, k3, S, a4, n4, k4, a5, n5, k5, a6, n6, k6, rfl, hS, hb, hb5⟩
end
end Go.Proofs.Ytpdhmfbpmbbmgaa.Mp
