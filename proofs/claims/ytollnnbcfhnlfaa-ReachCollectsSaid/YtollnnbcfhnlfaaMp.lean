/- Maps by what they have under each key: a map made by the call itself, written into, looked up; keys of any type with a key law. -/
import Derived.WideMake
import Derived.Carry
import Derived.WalkKit
import Derived.DeepKeys4
import Derived.Maps.Own
import Derived.OwnWalk
namespace Go.Proofs.Ytollnnbcfhnlfaa.Mp
open Go.RowKit Go.Maps
section
variable {P : Program}
/-- block b of w is a map that has, under a key x of type k, m x -/
structure MapIs (w : World) (P : Program) (k : TypeId) (b : Nat) (m : Value → Option Value) : Prop where
  ex : ∃ es clock, w.heap[b]? = some (.map es clock) ∧ (∀ e ∈ es.toList, ∃ l, keyOf P k e.key = some l) ∧ es.toList.Pairwise (fun x y => x.key ≠ y.key) ∧ ∀ x v, m x = some v ↔ ∃ e ∈ es.toList, e.key = x ∧ e.val = v
theorem MapIs.kept {w w' : World} {k : TypeId} {b : Nat} {m : Value → Option Value} (h : MapIs w P k b m) (e : w'.heap[b]? = w.heap[b]?) : MapIs w' P k b m := by
  obtain ⟨es, c, hb, r⟩ := h.ex
  exact ⟨⟨es, c, e.trans hb, r⟩⟩
theorem MapIs.made (w : World) (k : TypeId) : MapIs (w.alloc (.map #[] 0)) P k w.heap.size (fun _ => none) :=
  ⟨⟨#[], 0, by show (w.heap.push _)[w.heap.size]? = _; simp, by simp, by simp, by simp⟩⟩
theorem MapIs.lt {w : World} {k : TypeId} {b : Nat} {m : Value → Option Value} (h : MapIs w P k b m) : b < w.heap.size := by
  obtain ⟨es, c, hb, r⟩ := h.ex
  exact (Array.getElem?_eq_some_iff.1 hb).1
theorem MapIs.lookup {w : World} {k e t : TypeId} {b : Nat} {m : Value → Option Value} (h : MapIs w P k b m) (K : Keyed P k) (ht : P.underlying t = some (.map k e)) {z : Value} (hz : ∀ w, (zeroValue e).run P w = .ok z w) {key : Value} {l : Lit} (hkey : keyOf P k key = some l) :
    (Instr.lookup t (.map (some b)) key true).run P w = .ok (.tuple #[(m key).getD z, .bool (m key).isSome]) w := by
  obtain ⟨es, c, hb, hk, hp, hm⟩ := h.ex
  have hc := K.check w es.isEmpty hkey
  rcases K.find w hkey es.toList hk with ⟨hf, hn⟩ | ⟨j, e', hf, hj, he⟩
  · have e0 : m key = none := by
      cases hv : m key with
      | none => rfl
      | some v => obtain ⟨x, hx, hx1, _⟩ := (hm key v).1 hv; exact absurd hx1 (hn x hx)
    rw [e0]
    simp [Instr.lookup, run_underlying ht, MapKept.run_getObj_map hb, hc, hf, Result.andThen, hz]
  · have e0 : m key = some e'.val := (hm key e'.val).2 ⟨e', List.mem_of_getElem? hj, he, rfl⟩
    rw [e0]
    simp [Instr.lookup, run_underlying ht, MapKept.run_getObj_map hb, hc, hf, Result.andThen]
/-- what is under each key behind a store -/
noncomputable def put (m : Value → Option Value) (key val : Value) : Value → Option Value := fun x => @ite _ (x = key) (Classical.propDecidable _) (some val) (m x)
theorem put_same (m : Value → Option Value) (key val : Value) : put m key val key = some val := by unfold put; rw [if_pos rfl]
theorem put_ne {m : Value → Option Value} {key val x : Value} (h : x ≠ key) : put m key val x = m x := by unfold put; rw [if_neg h]
theorem MapIs.update {w : World} {k e t : TypeId} {b : Nat} {m : Value → Option Value} (h : MapIs w P k b m) (K : Keyed P k) (ht : P.underlying t = some (.map k e)) {key : Value} {l : Lit} (hkey : keyOf P k key = some l) (val : Value) :
    ∃ o, (Instr.mapUpdate t (.map (some b)) key val).run P w = .ok () { w with heap := w.heap.setIfInBounds b o } ∧ MapIs { w with heap := w.heap.setIfInBounds b o } P k b (put m key val) := by
  obtain ⟨es, c, hb, hk, hp, hm⟩ := h.ex
  have hlt := (Array.getElem?_eq_some_iff.1 hb).1
  have hc := K.check w false hkey
  rcases K.find w hkey es.toList hk with ⟨hf, hn⟩ | ⟨j, e', hf, hj, he⟩
  · refine ⟨.map (es.push { key := key, val := val, born := c }) (c + 1), ?_, ?_⟩
    · simp [Instr.mapUpdate, run_underlying ht, MapKept.run_getObj_map hb, hc, hf, MapKept.run_setObj_map _ hb, Result.andThen]
    · refine ⟨⟨es.push { key := key, val := val, born := c }, c + 1, by simp [hlt], ?_, ?_, ?_⟩⟩
      · intro x hx
        rw [Array.toList_push, List.mem_append] at hx
        rcases hx with hx | hx
        · exact hk x hx
        · obtain rfl := List.mem_singleton.1 hx; exact ⟨l, hkey⟩
      · rw [Array.toList_push, List.pairwise_append]
        refine ⟨hp, List.pairwise_singleton _ _, fun x hx y hy => ?_⟩
        obtain rfl := List.mem_singleton.1 hy
        exact hn x hx
      · intro x v
        simp only [Array.toList_push, List.mem_append, List.mem_singleton]
        by_cases hx : x = key
        · subst hx
          rw [put_same]
          constructor
          · intro h; cases h; exact ⟨_, .inr rfl, rfl, rfl⟩
          · rintro ⟨y, hy | rfl, h1, h2⟩
            · exact absurd h1 (hn y hy)
            · rw [← h2]
        · rw [put_ne hx, hm]
          constructor
          · rintro ⟨y, hy, h1, h2⟩; exact ⟨y, .inl hy, h1, h2⟩
          · rintro ⟨y, hy | rfl, h1, h2⟩
            · exact ⟨y, hy, h1, h2⟩
            · exact absurd h1.symm hx
  · have hst := K.stays w hkey
    have hj' : es[j]? = some e' := by rw [← Array.getElem?_toList]; exact hj
    refine ⟨.map (es.modify j fun e => { e with key := key, val := val }) c, ?_, ?_⟩
    · simp [Instr.mapUpdate, run_underlying ht, MapKept.run_getObj_map hb, hc, hf, hj', he, hst, MapKept.run_setObj_map _ hb, Result.andThen]
    · have hget : ∀ i, (es.modify j fun e => { e with key := key, val := val })[i]? = if i = j then some { e' with key := key, val := val } else es[i]? := by
        intro i
        rw [Array.getElem?_modify]
        by_cases h : j = i
        · subst h; rw [if_pos rfl, if_pos rfl, hj']; rfl
        · rw [if_neg h, if_neg (fun z => h z.symm)]
      have hmem : ∀ x, x ∈ (es.modify j fun e => { e with key := key, val := val }).toList ↔ x = { e' with key := key, val := val } ∨ ∃ i, i ≠ j ∧ es[i]? = some x := by
        intro x
        rw [List.mem_iff_getElem?]
        simp only [Array.getElem?_toList, hget]
        constructor
        · rintro ⟨i, hi⟩
          by_cases h : i = j
          · rw [if_pos h] at hi; exact .inl (by cases hi; rfl)
          · rw [if_neg h] at hi; exact .inr ⟨i, h, hi⟩
        · rintro (h | ⟨i, h, hi⟩)
          · exact ⟨j, by rw [if_pos rfl, h]⟩
          · exact ⟨i, by rw [if_neg h]; exact hi⟩
      have hkeys : (es.modify j fun e => { e with key := key, val := val }).toList.map (·.key) = es.toList.map (·.key) := by
        refine List.ext_getElem? fun i => ?_
        rw [List.getElem?_map, List.getElem?_map, Array.getElem?_toList, Array.getElem?_toList, hget]
        by_cases h : i = j
        · subst h; rw [if_pos rfl, hj']; simp [he]
        · rw [if_neg h]
      have hne : ∀ i x, i ≠ j → es[i]? = some x → x.key ≠ key := by
        intro i x h hi hx
        rw [List.pairwise_iff_getElem] at hp
        obtain ⟨hi1, hi2⟩ := Array.getElem?_eq_some_iff.1 hi
        obtain ⟨hj1, hj2⟩ := Array.getElem?_eq_some_iff.1 hj'
        rcases Nat.lt_or_gt_of_ne h with h | h
        · have := hp i j (by simpa using hi1) (by simpa using hj1) h
          simp only [Array.getElem_toList, hi2, hj2] at this
          exact this (hx.trans he.symm)
        · have := hp j i (by simpa using hj1) (by simpa using hi1) h
          simp only [Array.getElem_toList, hi2, hj2] at this
          exact this (he.trans hx.symm)
      refine ⟨⟨es.modify j fun e => { e with key := key, val := val }, c, by simp [hlt], ?_, ?_, ?_⟩⟩
      · intro x hx
        rcases (hmem x).1 hx with rfl | ⟨i, _, hi⟩
        · exact ⟨l, hkey⟩
        · exact hk x (by rw [List.mem_iff_getElem?]; exact ⟨i, by rw [Array.getElem?_toList]; exact hi⟩)
      · have h1 : (es.toList.map (·.key)).Pairwise (· ≠ ·) := List.pairwise_map.2 hp
        rw [← hkeys] at h1
        exact List.pairwise_map.1 h1
      · intro x v
        by_cases hx : x = key
        · subst hx
          rw [put_same]
          constructor
          · intro h; cases h; exact ⟨_, (hmem _).2 (.inl rfl), rfl, rfl⟩
          · rintro ⟨y, hy, h1, h2⟩
            rcases (hmem y).1 hy with rfl | ⟨i, hi, hi'⟩
            · rw [← h2]
            · exact absurd h1 (hne i y hi hi')
        · rw [put_ne hx, hm]
          constructor
          · rintro ⟨y, hy, h1, h2⟩
            refine ⟨y, (hmem y).2 (.inr ?_), h1, h2⟩
            obtain ⟨i, hi⟩ := List.mem_iff_getElem?.1 hy
            rw [Array.getElem?_toList] at hi
            refine ⟨i, fun z => ?_, hi⟩
            subst z
            rw [hj'] at hi; cases hi
            exact hx (h1.symm.trans he)
          · rintro ⟨y, hy, h1, h2⟩
            rcases (hmem y).1 hy with rfl | ⟨i, hi, hi'⟩
            · exact absurd h1.symm hx
            · exact ⟨y, List.mem_iff_getElem?.2 ⟨i, by rw [Array.getElem?_toList]; exact hi'⟩, h1, h2⟩
/-- w' is w but for block b -/
structure Upd (b : Nat) (w w' : World) : Prop where
  os : w'.os = w.os
  tape : w'.tape = w.tape
  output : w'.output = w.output
  size : w'.heap.size = w.heap.size
  block : ∀ k, k ≠ b → w'.heap[k]? = w.heap[k]?
theorem Upd.of (w : World) (b : Nat) (o : Obj) : Upd b w { w with heap := w.heap.setIfInBounds b o } :=
  ⟨rfl, rfl, rfl, by simp, fun k hk => by
    show (w.heap.setIfInBounds b o)[k]? = _
    rw [Array.getElem?_setIfInBounds_ne (fun z => hk z.symm)]⟩
theorem Upd.below {B b : Nat} {w W W' : World} (u : Upd b W W') (h : Below B w W) (hb : B ≤ b) : Below B w W' :=
  ⟨u.os.trans h.os, u.tape.trans h.tape, u.output.trans h.output, by rw [u.size]; exact h.size, fun k hk => (u.block k (by omega)).trans (h.block k hk)⟩
/-- 'm[k] = v' at the operation -/
theorem wp_update {w : World} {ops : Array Oper} {rest : List Oper} {o : Oper} {a : Act} {Q : Exit → Act → World → Prop} (hg : o.guard = none) (m x v : Operand) (t : TypeId) (hop : o.op = Op.mapUpdate t m x v ∨ o.op = Op.insert t m x v)
    {k e : TypeId} (K : Keyed P k) (ht : P.underlying t = some (.map k e)) {b : Nat} {f : Value → Option Value} (hm : a.eval m = .map (some b)) (hown : MapIs w P k b f) {key val : Value} {kl : Lit} (hx : a.eval x = key) (hv : a.eval v = val) (hkey : keyOf P k key = some kl)
    (hK : ∀ w', MapIs w' P k b (put f key val) → Upd b w w' → wpList P ops Q rest (a.put o.dst undef) w') :
    wpList P ops Q (o :: rest) a w := by
  refine wpList_plain hg fun K' hK' => ?_
  obtain ⟨o', hrun, r1⟩ := hown.update K ht hkey val
  unfold Oper.wp
  rcases hop with hop | hop <;> (simp [execOp, hop, hm, hx, hv, hrun, Result.andThen]; exact hK' _ _ (hK _ r1 (Upd.of w b o')))
/-- 'v, is = m[k]' at the operation -/
theorem wp_lookup {w : World} {ops : Array Oper} {rest : List Oper} {o : Oper} {a : Act} {Q : Exit → Act → World → Prop} (hg : o.guard = none) (m x : Operand) (t : TypeId) (hop : o.op = Op.lookup t m x true)
    {k e : TypeId} (K : Keyed P k) (ht : P.underlying t = some (.map k e)) {z : Value} (hz : ∀ w, (zeroValue e).run P w = .ok z w) {b : Nat} {f : Value → Option Value} (hm : a.eval m = .map (some b)) (hown : MapIs w P k b f) {key : Value} {kl : Lit} (hx : a.eval x = key) (hkey : keyOf P k key = some kl)
    (hK : wpList P ops Q rest (a.put o.dst (.tuple #[(f key).getD z, .bool (f key).isSome])) w) :
    wpList P ops Q (o :: rest) a w := by
  refine wpList_plain hg fun K' hK' => ?_
  have hrun := hown.lookup K ht hz hkey
  unfold Oper.wp
  simp [execOp, hop, hm, hx, hrun, Result.andThen]
  exact hK' _ _ hK
end
end Go.Proofs.Ytollnnbcfhnlfaa.Mp
