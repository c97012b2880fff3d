/- What text.Unquote comes to, in plain terms. -/
import Derived.Test.YtpemgladmnbfhaaDoorPA
set_option linter.unusedVariables false
set_option linter.unusedSimpArgs false
namespace Go.Proofs.YtpemgladmnbfhaaDoor.PL
open Go.RowKit Go.Proofs.YtpemgladmnbfhaaDoor.QL Go.Proofs.YtpemgladmnbfhaaDoor.Wd Go.Proofs.YtpemgladmnbfhaaDoorW.PrintWords
def plB (b : UInt8) : Bool := decide (32 ≤ b) && decide (b ≤ 126) && b != 34 && b != 92
theorem plain_f (b : UInt8) : text_plain.f (b.toNat : Int) = some (plB b) := by
  refine all_bytes (P := fun b => text_plain.f (b.toNat : Int) = some (plB b)) ?_ b
  decide +kernel
def hexv (b : UInt8) : Int := if 48 ≤ b ∧ b ≤ 57 then (b.toNat : Int) - 48 else if 97 ≤ b ∧ b ≤ 102 then (b.toNat : Int) - 87 else -1
theorem hexv_bd (b : UInt8) : -1 ≤ hexv b ∧ hexv b < 16 := by
  refine all_bytes (P := fun b => -1 ≤ hexv b ∧ hexv b < 16) ?_ b
  decide +kernel
theorem tdigit_f (b : UInt8) (k : Nat) (hk : 20 ≤ k) : text_digit.f k (b.toNat : Int) = some (hexv b) := by
  refine at_rounds (fun k => text_digit.mono _ k) hk ?_
  refine all_bytes (P := fun b => text_digit.f 20 (b.toNat : Int) = some (hexv b)) ?_ b
  decide +kernel
def hexB (h l : UInt8) : UInt8 := UInt8.ofNat (16 * hexv h + hexv l).toNat
theorem or16 (a b : Nat) (ha : a < 16) (hb : b < 16) : (Go.bits .or .i64 (wrap64 ((a : Int) * 16)) (b : Int)) % 256 = ((16 * a + b : Nat) : Int) := by
  have h : ∀ a : Nat, a < 16 → ∀ b : Nat, b < 16 → (Go.bits .or .i64 (wrap64 ((a : Int) * 16)) (b : Int)) % 256 = ((16 * a + b : Nat) : Int) := by decide +kernel
  exact h a ha b hb
theorem hexB_nat {h l : UInt8} (h0 : 0 ≤ hexv h) (l0 : 0 ≤ hexv l) : (Go.bits .or .i64 (wrap64 (hexv h * 16)) (hexv l)) % 256 = ((hexB h l).toNat : Int) := by
  have h1 := (hexv_bd h).2
  have l1 := (hexv_bd l).2
  obtain ⟨a, ha⟩ := Int.eq_ofNat_of_zero_le h0
  obtain ⟨b, hb⟩ := Int.eq_ofNat_of_zero_le l0
  rw [ha, hb, or16 a b (by omega) (by omega)]
  unfold hexB
  rw [ha, hb]
  have : (16 * (a : Int) + (b : Int)).toNat = 16 * a + b := by omega
  rw [this, UInt8.toNat_ofNat']
  have : (16 * a + b) % 2 ^ 8 = 16 * a + b := Nat.mod_eq_of_lt (by omega)
  rw [this]
/-- the bytes of a quote's inside; none: it is none -/
def unqL : List UInt8 → Option (List UInt8)
  | [] => some []
  | b :: r => if plB b = true then (unqL r).map (b :: ·) else
    match r with
    | x :: h :: l :: r' => if b = 92 ∧ x = 120 ∧ 0 ≤ hexv h ∧ 0 ≤ hexv l ∧ plB (hexB h l) = false then (unqL r').map (hexB h l :: ·) else none
    | _ => none
theorem unq_plain {b : UInt8} (r : List UInt8) (h : plB b = true) : unqL (b :: r) = (unqL r).map (b :: ·) := by
  rw [unqL.eq_def]; simp only [h, if_true]
theorem unq_four {b : UInt8} (h : ¬ plB b = true) (x y z : UInt8) (r : List UInt8) : unqL (b :: x :: y :: z :: r) = if b = 92 ∧ x = 120 ∧ 0 ≤ hexv y ∧ 0 ≤ hexv z ∧ plB (hexB y z) = false then (unqL r).map (hexB y z :: ·) else none := by
  rw [unqL.eq_def]; simp only [h, if_false]; rfl
theorem unq_short {b : UInt8} (h : ¬ plB b = true) (r : List UInt8) (hr : r.length < 3) : unqL (b :: r) = none := by
  rw [unqL.eq_def]; simp only [h, if_false]
  match r, hr with
  | [], _ => rfl
  | [_], _ => rfl
  | [_, _], _ => rfl
  | _ :: _ :: _ :: _, hr => simp at hr; omega
def nums (l : List UInt8) : List Int := l.map fun b => (b.toNat : Int)
theorem nums_str (l : List UInt8) : strOfNums (nums l) = tx l := by
  refine FT.cs_inj ?_
  have hb : ∀ c ∈ nums l, 0 ≤ c ∧ c ≤ 255 := by
    intro c hc
    unfold nums at hc
    obtain ⟨b, _, rfl⟩ := List.mem_map.1 hc
    have := b.toNat_lt
    omega
  rw [FT.cs_strOf _ hb]
  unfold FT.cs nums
  simp
def unqR (acc : List UInt8) : Option (List UInt8) → ByteArray × Int
  | some o => (tx (acc ++ o), 0)
  | none => (⟨#[]⟩, 6)
theorem nums_len (l : List UInt8) : (nums l).length = l.length := by unfold nums; rw [List.length_map]
theorem nums_snoc (l : List UInt8) (b : UInt8) : nums l ++ [(b.toNat : Int)] = nums (l ++ [b]) := by unfold nums; rw [List.map_append]; rfl
theorem unqR_cons (acc : List UInt8) (b : UInt8) (o : Option (List UInt8)) : unqR (acc ++ [b]) o = unqR acc (o.map (b :: ·)) := by
  cases o with
  | none => rfl
  | some o => simp [unqR]
theorem bs_0 {t : ByteArray} {b : UInt8} {r : List UInt8} (h : bs t = b :: r) : 0 < t.size ∧ bt t 0 = (b.toNat : Int) ∧ t.size = r.length + 1 := by
  have := bs_step (s := t) (i := 0) (by rw [List.drop_zero]; exact h)
  refine ⟨this.1, this.2.1, ?_⟩
  rw [← bs_len, h]; rfl
theorem tunq_l0 : ∀ (n : Nat) (t : ByteArray) (acc : List UInt8) (k : Nat), t.size ≤ n → t.size + acc.length ≤ 140737488351232 → 2 * n + 30 ≤ k → text_Unquote.l0 k (nums acc) t = some (unqR acc (unqL (bs t))) := by
  intro n
  induction n using Nat.strongRecOn with
  | _ n ih =>
    intro t acc k hn hb hk
    obtain ⟨k, rfl⟩ : ∃ m, k = m + 1 := ⟨k - 1, by omega⟩
    rw [text_Unquote.l0]
    cases hl : bs t with
    | nil =>
      have : t.size = 0 := by rw [← bs_len, hl]; rfl
      rw [if_neg (by omega), nums_str]
      simp [unqL, unqR]
    | cons b r =>
      obtain ⟨h0, h1, hs⟩ := bs_0 hl
      rw [if_pos (by omega), if_pos (by omega), h1, plain_f]
      simp only [Option.bind_some]
      by_cases hp : plB b = true
      · rw [if_pos hp, if_pos (by rw [nums_len]; omega), if_pos (by omega), nums_snoc]
        have hz : bs (t.extract 1 t.size) = r := by rw [bs_from, hl]; rfl
        have hz2 : (t.extract 1 t.size).size = r.length := by rw [← bs_len, hz]
        rw [ih (n - 1) (by omega) (t.extract 1 t.size) (acc ++ [b]) k (by omega) (by simp; omega) (by omega), hz, unqR_cons]
        rw [unq_plain r hp]
      · rw [if_neg hp]
        obtain ⟨k, rfl⟩ : ∃ m, k = m + 1 := ⟨k - 1, by omega⟩
        have bad : text_Unquote.j2 (k + 1) (nums acc) t true = some (unqR acc none) := by rw [text_Unquote.j2, if_pos rfl]; rfl
        match r, hl, hs with
        | [], hl, hs => rw [if_pos (by simp at hs; omega), bad, unq_short hp _ (by simp)]
        | [_], hl, hs => rw [if_pos (by simp at hs; omega), bad, unq_short hp _ (by simp)]
        | [_, _], hl, hs => rw [if_pos (by simp at hs; omega), bad, unq_short hp _ (by simp)]
        | x :: h :: l :: r', hl, hs =>
          simp only [List.length_cons] at hs
          rw [if_neg (by omega)]
          have g1 := bs_step (s := t) (i := 1) (c := x) (r := h :: l :: r') (by rw [hl]; rfl)
          have g2 := bs_step (s := t) (i := 2) (c := h) (r := l :: r') (by rw [hl]; rfl)
          have g3 := bs_step (s := t) (i := 3) (c := l) (r := r') (by rw [hl]; rfl)
          have e : unqL (b :: x :: h :: l :: r') = if b = 92 ∧ x = 120 ∧ 0 ≤ hexv h ∧ 0 ≤ hexv l ∧ plB (hexB h l) = false then (unqL r').map (hexB h l :: ·) else none := unq_four hp _ _ _ _
          rw [e]
          by_cases hb92 : b = 92
          · have hb' : (b.toNat : Int) = 92 := by rw [hb92]; rfl
            rw [if_pos hb', if_pos (by omega)]
            have q1 : bt t 1 = (x.toNat : Int) := g1.2.1
            have q2 : bt t 2 = (h.toNat : Int) := g2.2.1
            have q3 : bt t 3 = (l.toNat : Int) := g3.2.1
            rw [q1]
            by_cases hx : x = 120
            · have hx' : ((x.toNat : Int) != 120) = false := by rw [hx]; rfl
              rw [hx', text_Unquote.j2, if_neg (by decide), if_pos (by omega), q2, tdigit_f _ _ (by omega)]
              simp only [Option.bind_some]
              rw [if_pos (by omega), q3, tdigit_f _ _ (by omega)]
              simp only [Option.bind_some]
              by_cases hh : hexv h < 0
              · rw [if_pos hh, if_neg (fun z => by have := z.2.2.1; omega)]; rfl
              · rw [if_neg hh]
                by_cases hl2 : hexv l < 0
                · rw [if_pos hl2, if_neg (fun z => by have := z.2.2.2.1; omega)]; rfl
                · rw [if_neg hl2, hexB_nat (by omega) (by omega), plain_f]
                  simp only [Option.bind_some]
                  by_cases hv : plB (hexB h l) = true
                  · rw [if_pos hv, if_neg (fun z => by have := z.2.2.2.2; rw [hv] at this; cases this)]; rfl
                  · rw [if_neg hv, if_pos (by rw [nums_len]; omega), if_pos (by omega), nums_snoc, if_pos ⟨hb92, hx, by omega, by omega, Bool.eq_false_iff.mpr hv⟩]
                    have hz : bs (t.extract 4 t.size) = r' := by rw [bs_from, hl]; rfl
                    have hz2 : (t.extract 4 t.size).size = r'.length := by rw [← bs_len, hz]
                    rw [ih (n - 1) (by omega) (t.extract 4 t.size) (acc ++ [hexB h l]) k (by omega) (by simp; omega) (by omega), hz, unqR_cons]
            · have hx' : ((x.toNat : Int) != 120) = true := by
                rw [bne_iff_ne]
                exact fun z => hx (UInt8.toNat_inj.1 (by show x.toNat = 120; omega))
              rw [hx', bad, if_neg (fun z => hx z.2.1)]
          · have hb' : ¬ ((b.toNat : Int) = 92) := fun z => hb92 (UInt8.toNat_inj.1 (by show b.toNat = 92; omega))
            rw [if_neg hb', bad, if_neg (fun z => hb92 z.1)]
/-- what a quote says; none: it is none -/
def quoL (l : List UInt8) : Option (List UInt8) := if l.length < 2 ∨ l.head? ≠ some 34 ∨ l.getLast? ≠ some 34 then none else unqL ((l.drop 1).take (l.length - 2))
theorem tunq_f (t : ByteArray) (ht : t.size ≤ 140737488351232) (k : Nat) (hk : 2 * t.size + 40 ≤ k) : text_Unquote.f k t = some (unqR [] (quoL (bs t))) := by
  obtain ⟨k, rfl⟩ : ∃ m, k = m + 1 := ⟨k - 1, by omega⟩
  have bad : text_Unquote.j0 (k + 1) t true = some (unqR [] none) := by rw [text_Unquote.j0, if_pos rfl]; rfl
  unfold text_Unquote.f quoL
  rw [bs_len]
  by_cases h2 : t.size < 2
  · rw [if_pos (by omega), if_pos (.inl h2), bad]
  · rw [if_neg (by omega), if_pos (by omega)]
    obtain ⟨b, r, hl⟩ : ∃ b r, bs t = b :: r := by
      cases h : bs t with
      | nil => have := bs_len t; rw [h] at this; simp at this; omega
      | cons b r => exact ⟨b, r, rfl⟩
    obtain ⟨h0, h1, hs⟩ := bs_0 hl
    have hd : (bs t).head? = some b := by rw [hl]; rfl
    rw [h1, hd]
    by_cases hb : b = 34
    · have hb' : (b.toNat : Int) = 34 := by rw [hb]; rfl
      rw [if_pos hb', w64i (by omega) (by omega), if_pos (by omega), if_pos (by omega)]
      obtain ⟨c, hc⟩ : ∃ c, (bs t).drop (t.size - 1) = [c] := by
        have hlen : ((bs t).drop (t.size - 1)).length = 1 := by rw [List.length_drop, bs_len]; omega
        match h : (bs t).drop (t.size - 1), hlen with
        | [c], _ => exact ⟨c, rfl⟩
      have g := bs_step hc
      have hlast : (bs t).getLast? = some c := by
        have e := List.take_append_drop (t.size - 1) (bs t)
        rw [← e, hc]; simp
      rw [hlast]
      have e1 : ((t.size : Int) - 1) = ((t.size - 1 : Nat) : Int) := by omega
      rw [e1, g.2.1]
      by_cases hc34 : c = 34
      · have : ((c.toNat : Int) != 34) = false := by rw [hc34]; rfl
        rw [this, text_Unquote.j0, if_neg (by decide), w64i (by omega) (by omega), if_pos (by omega), if_pos (by omega), e1, Int.toNat_natCast, if_neg (by rw [hb, hc34]; simp; omega)]
        have hz : bs (t.extract 1 (t.size - 1)) = ((bs t).drop 1).take (t.size - 2) := by rw [bs_extract]; rfl
        have hz2 : (t.extract 1 (t.size - 1)).size ≤ t.size := by rw [ByteArray.size_extract]; omega
        have := tunq_l0 t.size (t.extract 1 (t.size - 1)) [] k hz2 (by simp; omega) (by omega)
        rw [show ([] : List Int) = nums [] from rfl, this, hz]
      · have : ((c.toNat : Int) != 34) = true := by
          rw [bne_iff_ne]
          exact fun z => hc34 (UInt8.toNat_inj.1 (by show c.toNat = 34; omega))
        rw [this, bad, if_pos (.inr (.inr (by simpa using hc34)))]
    · have hb' : ¬ ((b.toNat : Int) = 34) := fun z => hb (UInt8.toNat_inj.1 (by show b.toNat = 34; omega))
      rw [if_neg hb', bad, if_pos (.inr (.inl (by simpa using hb)))]
end Go.Proofs.YtpemgladmnbfhaaDoor.PL
