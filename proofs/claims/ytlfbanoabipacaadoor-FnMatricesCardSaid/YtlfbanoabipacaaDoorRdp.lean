/-
  What the reference reads as a number, and lists of numbers in texts: both ways give the same. Plain mathematics.
-/
import Derived.Test.YtlfbanoabipacaaDoorTok
import Derived.Test.YtlfbanoabipacaaDoorTxt
namespace Go.Proofs.YtlfbanoabipacaaDoor
open Go.RowKit Go.Lib
def isD (c : UInt8) : Bool := decide (48 ≤ c.toNat ∧ c.toNat ≤ 57)
def dv (l : List UInt8) : Nat := l.foldl (fun a c => 10 * a + (c.toNat - 48)) 0
theorem dv_snoc (l : List UInt8) (c : UInt8) : dv (l ++ [c]) = 10 * dv l + (c.toNat - 48) := by simp [dv]
theorem dv_bd : ∀ (l : List UInt8), l.all isD = true → dv l < 10 ^ l.length := by
  intro l
  obtain ⟨n, hn⟩ : ∃ n, l.length = n := ⟨_, rfl⟩
  induction n generalizing l with
  | zero => 
    intro _
    obtain rfl := List.eq_nil_of_length_eq_zero hn
    simp [dv]
  | succ n ih =>
    intro h
    rcases List.eq_nil_or_concat l with rfl | ⟨q, c, rfl⟩
    · simp at hn
    · rw [List.concat_eq_append] at *
      rw [List.all_append, Bool.and_eq_true] at h
      have h1 := ih q (by simpa using hn) h.1
      have h2 : isD c = true := by simpa using h.2
      have h3 := of_decide_eq_true h2
      rw [dv_snoc, List.length_append]
      simp only [List.length_cons, List.length_nil, Nat.zero_add]
      rw [Nat.pow_succ]
      omega
theorem uint_of (c : UInt8) : UInt8.ofNat c.toNat = c := by simp
/-- A numeral without a zero in front is the numeral of its value. -/
theorem dec_dv : ∀ (n : Nat) (l : List UInt8), l.length = n → l ≠ [] → l.all isD = true → (l.length = 1 ∨ l.head? ≠ some 48) → decDigits (dv l) = l
  | 0, l, hn, h0, _, _ => absurd (List.eq_nil_of_length_eq_zero hn) h0
  | n + 1, l, hn, h0, hd, hz => by
    rcases List.eq_nil_or_concat l with rfl | ⟨q, c, rfl⟩
    · exact absurd rfl h0
    · rw [List.concat_eq_append] at *
      rw [List.all_append, Bool.and_eq_true] at hd
      have hc := of_decide_eq_true (show isD c = true by simpa using hd.2)
      rw [dv_snoc]
      have hcc : UInt8.ofNat (48 + (c.toNat - 48)) = c := by rw [show 48 + (c.toNat - 48) = c.toNat by omega, uint_of]
      cases q with
      | nil =>
        have e : dv ([] : List UInt8) = 0 := rfl
        rw [e, Nat.mul_zero, Nat.zero_add, decDigits_one (by omega), hcc]
        rfl
      | cons x q =>
        have hx : x ≠ 48 := by
          intro h
          rcases hz with hz | hz
          · simp at hz
          · exact hz (by simp [h])
        have ih := dec_dv n (x :: q) (by simpa using hn) (by simp) hd.1 (.inr (by simpa using hx))
        have hpos : dv (x :: q) ≠ 0 := by
          intro h
          rw [h] at ih
          have : decDigits 0 = [48] := by rw [decDigits_one (by omega)]; rfl
          rw [this] at ih
          simp at ih
          exact hx ih.1.symm
        rw [decDigits, dif_neg (by omega), show (10 * dv (x :: q) + (c.toNat - 48)) / 10 = dv (x :: q) by omega, show (10 * dv (x :: q) + (c.toNat - 48)) % 10 = c.toNat - 48 by omega, ih, hcc]
theorem dec_isD (u : Nat) : (decDigits u).all isD = true := by
  rw [List.all_eq_true]
  intro c hc
  exact decide_eq_true (dec_all u u (Nat.le_refl _) c hc)
theorem dv_dec : ∀ (b u : Nat), u ≤ b → dv (decDigits u) = u
  | b, u, hb => by
    by_cases h : u < 10
    · rw [decDigits_one h]
      have := digit_nat h
      show 10 * 0 + ((UInt8.ofNat (48 + u)).toNat - 48) = u
      omega
    · obtain ⟨b, rfl⟩ : ∃ c, b = c + 1 := ⟨b - 1, by omega⟩
      rw [decDigits, dif_neg h, dv_snoc, dv_dec b (u / 10) (by omega)]
      have := digit_nat (d := u % 10) (by omega)
      omega
theorem dec_head : ∀ (b u : Nat), u ≤ b → 1 ≤ u → (decDigits u).head? ≠ some 48
  | b, u, hb, h1 => by
    by_cases h : u < 10
    · rw [decDigits_one h]
      have := digit_nat h
      intro hc
      have h2 : UInt8.ofNat (48 + u) = 48 := by simpa using hc
      rw [h2] at this
      have : (48 : UInt8).toNat = 48 := rfl
      omega
    · obtain ⟨b, rfl⟩ : ∃ c, b = c + 1 := ⟨b - 1, by omega⟩
      have ih := dec_head b (u / 10) (by omega) (by omega)
      rw [decDigits, dif_neg h]
      have hne := dec_ne (u / 10)
      cases hd : decDigits (u / 10) with
      | nil => exact absurd hd hne
      | cons x r => rw [hd] at ih; simpa using ih
/-- A numeral that the reference reads. -/
def nrV (l : List UInt8) : Int := if (1 ≤ l.length ∧ l.length ≤ 10) ∧ ¬ (l.head? = some 48 ∧ 1 < l.length) ∧ l.all isD = true then (dv l : Int) else -1
theorem nrV_bd (l : List UInt8) : -1 ≤ nrV l ∧ nrV l ≤ 9999999999 := by
  unfold nrV
  split
  · rename_i h
    have h1 := dv_bd l h.2.2
    have h2 : 10 ^ l.length ≤ 10 ^ 10 := Nat.pow_le_pow_right (by omega) h.1.2
    omega
  · omega
def miB (l : List UInt8) : Bool := decide (1 < l.length) && decide (l.head? = some 45)
def foN (l : List UInt8) : Int := nrV (if miB l = true then l.drop 1 else l)
def foK (l : List UInt8) : Bool := !(decide (foN l < 0) || (miB l && decide (foN l = 0)) || decide (1000000 < foN l))
def foI (l : List UInt8) : Option Int := if foK l = true then some (if miB l = true then -foN l else foN l) else none
theorem nrV_dec {u : Nat} (h : u ≤ 1000000) : nrV (decDigits u) = u := by
  unfold nrV
  have hl := dec_len 9 u (by omega)
  have hne := dec_ne u
  have hl1 : 1 ≤ (decDigits u).length := by cases hd : decDigits u with | nil => exact absurd hd hne | cons => simp
  have h3 : ¬ ((decDigits u).head? = some 48 ∧ 1 < (decDigits u).length) := by
    rintro ⟨h1, h2⟩
    by_cases h0 : u < 10
    · rw [decDigits_one h0] at h2
      simp at h2
    · exact dec_head u u (Nat.le_refl _) (by omega) h1
  rw [if_pos ⟨⟨hl1, hl⟩, h3, dec_isD u⟩, dv_dec u u (Nat.le_refl _)]
theorem nrV_pos {l : List UInt8} (h : 0 ≤ nrV l) : l = decDigits (nrV l).toNat := by
  unfold nrV at h ⊢
  split at h
  · rename_i hc
    rw [if_pos hc]
    obtain ⟨⟨h1, _⟩, h2, h3⟩ := hc
    have := dec_dv l.length l rfl (by intro hn; subst hn; simp at h1) h3 (by
      rcases Nat.lt_or_ge 1 l.length with h4 | h4
      · exact .inr fun h5 => h2 ⟨h5, h4⟩
      · exact .inl (by omega))
    rw [Int.toNat_natCast, this]
  · omega
theorem dec_head45 (u : Nat) : (decDigits u).head? ≠ some 45 := by
  intro h
  cases hd : decDigits u with
  | nil => rw [hd] at h; simp at h
  | cons c r =>
    rw [hd] at h
    have hc : c = 45 := by simpa using h
    have := dec_all u u (Nat.le_refl _) c (by rw [hd]; simp)
    rw [hc] at this
    have h45 : (45 : UInt8).toNat = 45 := rfl
    omega
theorem foI_itoa {n : Int} (h : Bd 1000000 n) : foI (itoa n) = some n := by
  obtain ⟨h1, h2⟩ := h
  by_cases c : n < 0
  · have e : itoa n = 45 :: decDigits n.natAbs := by rw [itoa, if_pos c]
    have hne := dec_ne n.natAbs
    have hm : miB (itoa n) = true := by
      rw [e]
      unfold miB
      cases hd : decDigits n.natAbs with
      | nil => exact absurd hd hne
      | cons => simp
    have hn : foN (itoa n) = n.natAbs := by
      unfold foN
      rw [if_pos hm, e, List.drop_one, List.tail_cons, nrV_dec (by omega)]
    have hk : foK (itoa n) = true := by
      unfold foK
      rw [hn]
      simp
      refine ⟨.inr (by omega), by omega⟩
    unfold foI
    rw [if_pos hk, if_pos hm, hn]
    congr 1
    omega
  · have e : itoa n = decDigits n.toNat := by rw [itoa, if_neg c]
    have hm : miB (itoa n) = false := by
      rw [e]
      unfold miB
      rw [decide_eq_false (dec_head45 _), Bool.and_false]
    have hn : foN (itoa n) = n.toNat := by
      unfold foN
      rw [if_neg (by rw [hm]; decide), e, nrV_dec (by omega)]
    have hk : foK (itoa n) = true := by
      unfold foK
      rw [hn, hm]
      simp
      omega
    unfold foI
    rw [if_pos hk, if_neg (by rw [hm]; decide), hn]
    congr 1
    omega
theorem foI_some {l : List UInt8} {n : Int} (h : foI l = some n) : Bd 1000000 n ∧ l = itoa n := by
  unfold foI at h
  split at h
  · rename_i hk
    unfold foK at hk
    simp at hk
    obtain ⟨⟨h1, h2⟩, h3⟩ := hk
    have h0 : 0 ≤ foN l := by omega
    cases hm : miB l with
    | true =>
      rw [hm] at h
      simp at h
      have hd := nrV_pos (l := l.drop 1) (by unfold foN at h0; rwa [if_pos hm] at h0)
      have hf : foN l = nrV (l.drop 1) := by unfold foN; rw [if_pos hm]
      rw [← hf] at hd
      unfold miB at hm
      simp at hm
      obtain ⟨c, r, rfl⟩ : ∃ c r, l = c :: r := by cases l with | nil => simp at hm | cons c r => exact ⟨c, r, rfl⟩
      have hc : c = 45 := by simpa using hm.2
      subst hc
      have hne : ¬ foN (45 :: r) = 0 := by
        rcases h2 with h2 | h2
        · exfalso
          have : miB (45 :: r) = true := by unfold miB; simp; simpa using hm.1
          rw [this] at h2
          cases h2
        · exact h2
      subst h
      refine ⟨⟨by omega, by omega⟩, ?_⟩
      rw [itoa, if_pos (by omega)]
      congr 1
      rw [show (-foN (45 :: r)).natAbs = (foN (45 :: r)).toNat by omega]
      simpa using hd
    | false =>
      rw [hm] at h
      simp at h
      have hf : foN l = nrV l := by unfold foN; rw [if_neg (by rw [hm]; decide)]
      have hd := nrV_pos (l := l) (by omega)
      subst h
      refine ⟨⟨by omega, by omega⟩, ?_⟩
      rw [itoa, if_neg (by omega), hf]
      exact hd
  · cases h

/-! ### Lists -/
section
variable {α : Type} (f : α → Option Int)
def seqO : List α → Option (List Int)
  | [] => some []
  | p :: r => match f p, seqO r with
    | some x, some l => some (x :: l)
    | _, _ => none
theorem seqO_map {β : Type} (g : β → α) (v : β → Int) : ∀ l : List β, (∀ x ∈ l, f (g x) = some (v x)) → seqO f (l.map g) = some (l.map v)
  | [], _ => rfl
  | x :: l, h => by
    simp only [List.map_cons, seqO]
    rw [h x (by simp), seqO_map g v l fun y hy => h y (by simp [hy])]
theorem seqO_some : ∀ (ps : List α) (l : List Int), seqO f ps = some l → l.length = ps.length ∧ ∀ k : Nat, ∀ p, ps[k]? = some p → f p = l[k]?
  | [], l, h => by
    simp [seqO] at h
    subst h
    exact ⟨rfl, fun k p hp => by simp at hp⟩
  | p :: r, l, h => by
    simp only [seqO] at h
    split at h
    · rename_i x l' hx hl
      obtain ⟨h1, h2⟩ := seqO_some r l' hl
      simp at h
      subst h
      refine ⟨by simp [h1], fun k q hq => ?_⟩
      cases k with
      | zero =>
        have : p = q := by simpa using hq
        subst this
        simpa using hx
      | succ k => simpa using h2 k q (by simpa using hq)
    · cases h
theorem seqO_snoc (p : α) : ∀ ps : List α, seqO f (ps ++ [p]) = match seqO f ps, f p with | some l, some x => some (l ++ [x]) | _, _ => none
  | [] => by
    simp only [List.nil_append, seqO]
    cases f p <;> rfl
  | q :: r => by
    simp only [List.cons_append, seqO]
    rw [seqO_snoc p r]
    cases f q <;> cases seqO f r <;> cases f p <;> rfl
theorem seqO_none {ps : List α} {p : α} (h : p ∈ ps) (hp : f p = none) : seqO f ps = none := by
  induction ps with
  | nil => cases h
  | cons q r ih =>
    simp only [seqO]
    rcases List.mem_cons.1 h with rfl | h
    · rw [hp]
    · rw [ih h]
      cases f q <;> rfl
end
/-- What the reference reads in a text. -/
def fiL (l : List UInt8) (b : UInt8) (n : Nat) : List Int := if (splitL l b).length = n then (seqO foI (splitL l b)).getD [] else []
def atO (w : List UInt8) : Option Int := match atoiAll w with
  | .ok v => some v
  | _ => none
/-- What the program reads in a text. -/
def inI (s : ByteArray) : List Int := (seqO (fun w : ByteArray => atO w.data.toList) (goFieldsP sepP s)).getD []
theorem atO_itoa {n : Int} (h : Bd 1000000000000 n) : atO (itoa n) = some n := by
  unfold atO
  rw [atoi_itoa h]
theorem itoa_clean (b : UInt8) (hb : sepP b.toNat = true) (n : Int) : Clean b (itoa n) := by
  intro c hc h
  have := (itoa_word n).2 c hc
  rw [h, hb] at this
  cases this.2
theorem list_of_get {l m : List Int} {ps : List (List UInt8)} (hl : l.length = ps.length) (h : ∀ k : Nat, ∀ p, ps[k]? = some p → foI p = l[k]?) : ps = l.map itoa ∧ ∀ x ∈ l, Bd 1000000 x := by
  refine ⟨List.ext_getElem? fun k => ?_, fun x hx => ?_⟩
  · rw [List.getElem?_map]
    cases hp : ps[k]? with
    | none =>
      have := List.getElem?_eq_none_iff.1 hp
      rw [List.getElem?_eq_none (by omega)]
      rfl
    | some p =>
      have h1 := h k p hp
      have hk := (List.getElem?_eq_some_iff.1 hp).1
      rw [List.getElem?_eq_getElem (by omega)] at h1 ⊢
      rw [(foI_some h1).2]
      rfl
  · obtain ⟨k, hk, rfl⟩ := List.getElem_of_mem hx
    have h1 := h k ps[k] (List.getElem?_eq_getElem (by omega))
    rw [List.getElem?_eq_getElem hk] at h1
    exact (foI_some h1).1
/-- What the reference reads is what was written. -/
theorem fiL_iff {l : List UInt8} {b : UInt8} {n : Nat} (hb : sepP b.toNat = true) (hn : 1 ≤ n) {z : List Int} (hz : z.length = n) : fiL l b n = z ↔ ((∀ x ∈ z, Bd 1000000 x) ∧ l = Lib.join (z.map itoa) [b]) := by
  constructor
  · intro h
    unfold fiL at h
    split at h
    · rename_i hl
      cases hs : seqO foI (splitL l b) with
      | none =>
        rw [hs] at h
        have h' : z = [] := by simpa using h
        rw [h'] at hz
        simp at hz
        omega
      | some z' =>
        rw [hs] at h
        simp at h
        subst h
        obtain ⟨h1, h2⟩ := seqO_some foI _ _ hs
        obtain ⟨h3, h4⟩ := list_of_get (m := z') h1 h2
        exact ⟨h4, by rw [← h3, join_splitL]⟩
    · rw [← h] at hz
      simp at hz
      omega
  · rintro ⟨h1, rfl⟩
    have hsp : splitL (Lib.join (z.map itoa) [b]) b = z.map itoa := splitL_join b (by cases z with | nil => simp at hz; omega | cons => simp) (fun p hp => by
      obtain ⟨x, _, rfl⟩ := List.mem_map.1 hp
      exact itoa_clean b hb x)
    unfold fiL
    rw [hsp, if_pos (by rw [List.length_map]; exact hz), seqO_map foI itoa id z fun x hx => foI_itoa (h1 x hx)]
    simp
theorem txt_join (b : UInt8) : ∀ (g : List UInt8) (w : List UInt8) (ws : List (List UInt8)), txt ((g, w) :: ws.map fun x => ([b], x)) = g ++ Lib.join (w :: ws) [b]
  | g, w, [] => by simp [txt, Lib.join_one]
  | g, w, x :: ws => by
    have ih := txt_join b [b] x ws
    rw [List.map_cons]
    rw [txt, ih]
    rw [Lib.join_cons, Lib.join_cons]
    simp [Lib.joinTail]
theorem inI_join {s : ByteArray} {b : UInt8} (hb : sepP b.toNat = true) (hb2 : b.toNat < 128) {z : List Int} (h : ∀ x ∈ z, Bd 1000000000000 x) (hs : s.data.toList = Lib.join (z.map itoa) [b]) (hz : z ≠ []) : inI s = z := by
  obtain ⟨x, z, rfl⟩ : ∃ x r, z = x :: r := by cases z with | nil => exact absurd rfl hz | cons x r => exact ⟨x, r, rfl⟩
  have hf := fields_txt (s := s) (([], itoa x) :: (z.map itoa).map fun w => ([b], w)) [] (by rw [hs, txt_join]; simp) (fun c hc => by cases hc) (fun y hy => by
      rcases List.mem_cons.1 hy with rfl | hy
      · exact ⟨fun c hc => (by cases hc), itoa_word x⟩
      · obtain ⟨w, hw, rfl⟩ := List.mem_map.1 hy
        obtain ⟨n, _, rfl⟩ := List.mem_map.1 hw
        exact ⟨fun c hc => (by have hc' : c = b := (by simpa using hc); rw [hc']; exact ⟨hb2, hb⟩), itoa_word n⟩) (fun y hy => by
      obtain ⟨w, _, rfl⟩ := List.mem_map.1 (by simpa using hy)
      simp)
  unfold inI
  have e : ((([], itoa x) :: (z.map itoa).map fun w => ([b], w)).map fun y : List UInt8 × List UInt8 => (⟨y.2.toArray⟩ : ByteArray)) = (x :: z).map fun n => (⟨(itoa n).toArray⟩ : ByteArray) := by
    simp
  rw [hf, e, seqO_map (fun w : ByteArray => atO w.data.toList) (fun n => (⟨(itoa n).toArray⟩ : ByteArray)) id (x :: z) fun n hn => by
    show atO ((itoa n).toArray).toList = _
    rw [List.toList_toArray]
    exact atO_itoa (h n hn)]
  simp
end Go.Proofs.YtlfbanoabipacaaDoor
