/-
  Texts made of words and separators: what strings.FieldsFunc finds in them; what strconv.Atoi reads in a word. Plain mathematics.
-/
import Derived.Test.YtlfbanoabipacaaDoorBase
import Derived.Lib.ItoaNum
import Derived.Lib.FieldsP
import Derived.Lib.AtoiAll
import Derived.Lib.Join
import Derived.Laws.RangeString
namespace Go.Proofs.YtlfbanoabipacaaDoor
open Go.RowKit Go.Lib

/-- What is no part of a number. -/
def sepP (c : Nat) : Bool := decide (c ≠ 45) && (decide (c < 48) || decide (57 < c))
theorem dec_at {s : ByteArray} {pos : Nat} {c : UInt8} (h : s.data.toList[pos]? = some c) (ha : c.toNat < 128) : Utf8.decode s pos = (c.toNat, 1) ∧ pos < s.size := by
  obtain ⟨hl, hc⟩ := List.getElem?_eq_some_iff.1 h
  have hl' : pos < s.size := by simpa using hl
  have he : s[pos]'hl' = c := by
    rw [← hc]
    rfl
  refine ⟨?_, hl'⟩
  rw [decode_ascii s pos hl' (by rw [he]; exact ha), he]

/-- A run of letters of a word. -/
theorem spans_word {s : ByteArray} {a : Nat} {acc : List (Nat × Nat)} : ∀ (w : List UInt8) (f pos : Nat), (∀ i (c : UInt8), w[i]? = some c → s.data.toList[pos + i]? = some c ∧ c.toNat < 128 ∧ sepP c.toNat = false) →
    spansFromP sepP s (w.length + f) pos (some a) acc = spansFromP sepP s f (pos + w.length) (some a) acc
  | [], f, pos, _ => by simp
  | c :: w, f, pos, h => by
    obtain ⟨h1, h2, h3⟩ := h 0 c rfl
    obtain ⟨hd, hl⟩ := dec_at (pos := pos) (by simpa using h1) h2
    rw [List.length_cons, show w.length + 1 + f = (w.length + f) + 1 by omega, spansFromP, if_pos hl, hd, if_neg (by rw [h3]; decide)]
    rw [spans_word w f (pos + 1) fun i c' hc => by have := h (i + 1) c' (by simpa using hc); rwa [show pos + (i + 1) = pos + 1 + i by omega] at this]
    rw [show pos + 1 + w.length = pos + (w.length + 1) by omega]
/-- A run of separators, no word open. -/
theorem spans_gap {s : ByteArray} {acc : List (Nat × Nat)} : ∀ (w : List UInt8) (f pos : Nat), (∀ i (c : UInt8), w[i]? = some c → s.data.toList[pos + i]? = some c ∧ c.toNat < 128 ∧ sepP c.toNat = true) →
    spansFromP sepP s (w.length + f) pos none acc = spansFromP sepP s f (pos + w.length) none acc
  | [], f, pos, _ => by simp
  | c :: w, f, pos, h => by
    obtain ⟨h1, h2, h3⟩ := h 0 c rfl
    obtain ⟨hd, hl⟩ := dec_at (pos := pos) (by simpa using h1) h2
    rw [List.length_cons, show w.length + 1 + f = (w.length + f) + 1 by omega, spansFromP, if_pos hl, hd, if_pos h3]
    rw [spans_gap w f (pos + 1) fun i c' hc => by have := h (i + 1) c' (by simpa using hc); rwa [show pos + (i + 1) = pos + 1 + i by omega] at this]
    rw [show pos + 1 + w.length = pos + (w.length + 1) by omega]
/-- Words, each behind a gap; the gaps but the first are not empty. -/
def txt : List (List UInt8 × List UInt8) → List UInt8
  | [] => []
  | (g, w) :: r => g ++ (w ++ txt r)
def WordOk (w : List UInt8) : Prop := w ≠ [] ∧ ∀ c ∈ w, c.toNat < 128 ∧ sepP c.toNat = false
def GapOk (g : List UInt8) : Prop := ∀ c ∈ g, c.toNat < 128 ∧ sepP c.toNat = true
/-- Where the words lie. -/
def places : Nat → List (List UInt8 × List UInt8) → List (Nat × Nat)
  | _, [] => []
  | p, (g, w) :: r => (p + g.length, p + g.length + w.length) :: places (p + g.length + w.length) r
theorem at_mid {A B C : List UInt8} {i : Nat} {c : UInt8} (h : B[i]? = some c) : (A ++ (B ++ C))[A.length + i]? = some c := by
  rw [List.getElem?_append_right (by omega), show A.length + i - A.length = i by omega]
  have := (List.getElem?_eq_some_iff.1 h).1
  rw [List.getElem?_append_left this, h]
theorem spans_txt {s : ByteArray} (last : List UInt8) (hlast : GapOk last) : ∀ (r : List (List UInt8 × List UInt8)) (pre : List UInt8) (f : Nat) (acc : List (Nat × Nat)),
    s.data.toList = pre ++ (txt r ++ last) → (∀ x ∈ r, GapOk x.1 ∧ WordOk x.2) → (∀ x ∈ r.drop 1, x.1 ≠ []) → (r ≠ [] → last ≠ [] ∨ True) → (txt r ++ last).length ≤ f →
    ∃ st, spansFromP sepP s f pre.length none acc = st ∧ closeSpans s st = acc ++ places pre.length r
  | [], pre, f, acc, hs, _, _, _, hf => by
    refine ⟨_, rfl, ?_⟩
    have hl : last.length ≤ f := by simpa [txt] using hf
    obtain ⟨k, rfl⟩ : ∃ k, f = last.length + k := ⟨f - last.length, by omega⟩
    rw [spans_gap last k pre.length fun i c hc => by
      have := hlast c (List.mem_of_getElem? hc)
      refine ⟨?_, this.1, this.2⟩
      rw [hs]
      have e := at_mid (A := pre) (B := last) (C := []) hc
      simpa [txt] using e]
    have hz : s.size = pre.length + last.length := by
      have : s.data.toList.length = s.size := by simp
      rw [← this, hs]
      simp [txt]
    rw [spansFromP_end _ _ _ _ _ _ (by omega)]
    simp [closeSpans, places]
  | (g, w) :: r, pre, f, acc, hs, hok, hne, _, hf => by
    obtain ⟨hg, hw0, hw⟩ := hok (g, w) (by simp)
    have hlen : g.length + (w.length + (txt r ++ last).length) ≤ f := by
      simp [txt] at hf ⊢
      omega
    obtain ⟨k, rfl⟩ : ∃ k, f = g.length + (1 + ((w.length - 1) + k)) := by
      have : 1 ≤ w.length := by cases w with | nil => exact absurd rfl hw0 | cons => simp
      exact ⟨f - g.length - w.length, by omega⟩
    have hs' : s.data.toList = pre ++ (g ++ (w ++ (txt r ++ last))) := by rw [hs]; simp [txt]
    obtain ⟨c, w', rfl⟩ : ∃ c w', w = c :: w' := by cases w with | nil => exact absurd rfl hw0 | cons c w' => exact ⟨c, w', rfl⟩
    rw [spans_gap g _ pre.length fun i c' hc => by
      have := hg c' (List.mem_of_getElem? hc)
      exact ⟨by rw [hs']; exact at_mid hc, this.1, this.2⟩]
    have hc0 := hw c (by simp)
    have hat : s.data.toList[pre.length + g.length]? = some c := by
      rw [hs', ← List.append_assoc]
      simp
    obtain ⟨hd, hl⟩ := dec_at hat hc0.1
    rw [show 1 + ((c :: w').length - 1 + k) = (w'.length + k) + 1 by simp; omega, spansFromP, if_pos hl, hd, if_neg (by rw [hc0.2]; decide)]
    simp only []
    rw [spans_word w' k (pre.length + g.length + 1) fun i c' hc => by
      have h1 := hw c' (by simp [List.mem_of_getElem? hc])
      refine ⟨?_, h1.1, h1.2⟩
      have := at_mid (A := pre ++ g) (B := c :: w') (C := txt r ++ last) (i := i + 1) (c := c') (by simpa using hc)
      rw [hs', ← List.append_assoc]
      rw [show pre.length + g.length + 1 + i = (pre ++ g).length + (i + 1) by simp; omega]
      exact this]
    have hpos : pre.length + g.length + 1 + w'.length = (pre ++ (g ++ (c :: w'))).length := by simp; omega
    have hs2 : s.data.toList = (pre ++ (g ++ (c :: w'))) ++ (txt r ++ last) := by rw [hs']; simp
    rw [hpos]
    have hz : s.size = (pre ++ (g ++ (c :: w'))).length + (txt r ++ last).length := by
      have : s.data.toList.length = s.size := by simp
      rw [← this, hs2, List.length_append]
    by_cases hend : txt r ++ last = []
    · -- the word ends with the text
      have hr : r = [] := by
        cases r with
        | nil => rfl
        | cons x r =>
          obtain ⟨g2, w2⟩ := x
          have := (hok (g2, w2) (by simp)).2.1
          simp [txt] at hend
          exact absurd hend.2.1 this
      subst hr
      have hlast0 : last = [] := by simpa [txt] using hend
      subst hlast0
      refine ⟨_, rfl, ?_⟩
      rw [spansFromP_end _ _ _ _ _ _ (by simp [txt] at hz ⊢; omega)]
      simp [closeSpans, places]
      simp [txt] at hz
      omega
    · -- a gap follows
      obtain ⟨b, rest, hb, hsep⟩ : ∃ b rest, txt r ++ last = b :: rest ∧ (b.toNat < 128 ∧ sepP b.toNat = true) := by
        cases r with
        | nil =>
          cases last with
          | nil => exact absurd rfl hend
          | cons b rest => exact ⟨b, rest, rfl, hlast b (by simp)⟩
        | cons x r =>
          obtain ⟨g2, w2⟩ := x
          have hg2 := hne (g2, w2) (by simp)
          have hgo := (hok (g2, w2) (by simp)).1
          cases g2 with
          | nil => exact absurd rfl hg2
          | cons b g2 => exact ⟨b, _, rfl, hgo b (by simp)⟩
      have hk : 1 ≤ k := by
        have : 1 ≤ (txt r ++ last).length := by rw [hb]; simp
        simp at hlen this
        omega
      obtain ⟨k, rfl⟩ : ∃ k', k = k' + 1 := ⟨k - 1, by omega⟩
      have hatb : s.data.toList[(pre ++ (g ++ (c :: w'))).length]? = some b := by
        rw [hs2, hb]
        simp
      obtain ⟨hd2, hl2⟩ := dec_at hatb hsep.1
      rw [spansFromP, if_pos hl2, hd2, if_pos hsep.2]
      simp only []
      have hback : spansFromP sepP s (k + 1) (pre ++ (g ++ (c :: w'))).length none (acc ++ [(pre.length + g.length, (pre ++ (g ++ (c :: w'))).length)]) = spansFromP sepP s k ((pre ++ (g ++ (c :: w'))).length + 1) none (acc ++ [(pre.length + g.length, (pre ++ (g ++ (c :: w'))).length)]) := by
        rw [spansFromP, if_pos hl2, hd2, if_pos hsep.2]
      rw [← hback]
      obtain ⟨st, h1, h2⟩ := spans_txt last hlast r (pre ++ (g ++ (c :: w'))) (k + 1) (acc ++ [(pre.length + g.length, (pre ++ (g ++ (c :: w'))).length)]) hs2 (fun x hx => hok x (by simp [hx])) (fun x hx => hne x (by simpa using List.mem_of_mem_drop hx)) (fun _ => .inr trivial) (by
        simp at hlen ⊢
        omega)
      refine ⟨st, h1, ?_⟩
      rw [h2]
      simp [places]
      rw [show pre.length + (g.length + (w'.length + 1)) = pre.length + g.length + (w'.length + 1) by omega]
      exact ⟨rfl, rfl⟩
/-- What lies there. -/
theorem extract_at {s : ByteArray} {A B C : List UInt8} (h : s.data.toList = A ++ (B ++ C)) : s.extract A.length (A.length + B.length) = ⟨B.toArray⟩ := by
  apply ByteArray.ext
  apply Array.toList_inj.1
  rw [ByteArray.data_extract, Array.toList_extract, h]
  simp [List.extract]
theorem fields_txt {s : ByteArray} (r : List (List UInt8 × List UInt8)) (last : List UInt8) (hs : s.data.toList = txt r ++ last) (hlast : GapOk last) (hok : ∀ x ∈ r, GapOk x.1 ∧ WordOk x.2) (hne : ∀ x ∈ r.drop 1, x.1 ≠ []) :
    goFieldsP sepP s = r.map fun x => (⟨x.2.toArray⟩ : ByteArray) := by
  have hz : (txt r ++ last).length = s.size := by rw [← hs]; simp
  obtain ⟨st, h1, h2⟩ := spans_txt last hlast r [] s.size [] (by simpa using hs) hok hne (fun _ => .inr trivial) (by omega)
  have h3 : spansOfP sepP s = places 0 r := by
    unfold spansOfP
    rw [show (0 : Nat) = ([] : List UInt8).length from rfl, h1, h2]
    simp
  unfold goFieldsP
  rw [h3]
  have key : ∀ (r : List (List UInt8 × List UInt8)) (pre : List UInt8), s.data.toList = pre ++ (txt r ++ last) → (places pre.length r).map (fun x => s.extract x.1 x.2) = r.map fun x => (⟨x.2.toArray⟩ : ByteArray) := by
    intro r
    induction r with
    | nil => intro pre _; rfl
    | cons x r ih =>
      intro pre h
      obtain ⟨g, w⟩ := x
      have h' : s.data.toList = (pre ++ g) ++ (w ++ (txt r ++ last)) := by rw [h]; simp [txt]
      have h'' : s.data.toList = (pre ++ g ++ w) ++ (txt r ++ last) := by rw [h']; simp
      have e := extract_at h'
      rw [List.length_append] at e
      simp only [places, List.map_cons]
      rw [e]
      have := ih (pre ++ g ++ w) h''
      rw [List.length_append, List.length_append] at this
      rw [this]
  exact key r [] (by simpa using hs)

/-! ### The words of numbers -/
theorem digit_nat {d : Nat} (h : d < 10) : (UInt8.ofNat (48 + d)).toNat = 48 + d := by
  rw [UInt8.toNat_ofNat']
  omega
theorem dec_all : ∀ (b u : Nat), u ≤ b → ∀ c ∈ decDigits u, 48 ≤ c.toNat ∧ c.toNat ≤ 57
  | b, u, hb => by
    by_cases h : u < 10
    · rw [decDigits_one h]
      intro c hc
      simp at hc
      subst hc
      have := digit_nat h
      simp at this ⊢
      omega
    · obtain ⟨b, rfl⟩ : ∃ c, b = c + 1 := ⟨b - 1, by omega⟩
      rw [decDigits, dif_neg h]
      intro c hc
      rcases List.mem_append.1 hc with hc | hc
      · exact dec_all b (u / 10) (by omega) c hc
      · have hc' : c = UInt8.ofNat (48 + u % 10) := by simpa using hc
        have := digit_nat (d := u % 10) (by omega)
        rw [hc']
        omega
theorem dec_ne (u : Nat) : decDigits u ≠ [] := by
  rw [decDigits]
  split <;> simp
theorem itoa_word (n : Int) : WordOk (itoa n) := by
  have hd : ∀ u, ∀ c ∈ decDigits u, c.toNat < 128 ∧ sepP c.toNat = false := by
    intro u c hc
    obtain ⟨h1, h2⟩ := dec_all u u (Nat.le_refl _) c hc
    refine ⟨by omega, ?_⟩
    unfold sepP
    simp
    omega
  unfold itoa
  split
  · refine ⟨by simp, fun c hc => ?_⟩
    rcases List.mem_cons.1 hc with rfl | hc
    · decide
    · exact hd _ c hc
  · exact ⟨dec_ne _, hd _⟩
theorem pu_append : ∀ (l : List UInt8) (acc : Nat) (x : UInt8), (∀ c ∈ l, 48 ≤ c.toNat ∧ c.toNat ≤ 57) → ∀ m, parseUint10 acc l = .ok m → parseUint10 acc (l ++ [x]) = parseUint10 m [x]
  | [], acc, x, _, m, h => by
    simp only [parseUint10] at h
    injection h with h
    rw [← h]
    rfl
  | c :: l, acc, x, hl, m, h => by
    have hc := hl c (by simp)
    rw [List.cons_append]
    unfold parseUint10 at h ⊢
    rw [if_pos hc] at h ⊢
    split at h
    · cases h
    · split at h
      · cases h
      · rename_i h1 h2
        rw [if_neg h1, if_neg h2]
        exact pu_append l _ x (fun c hc => hl c (by simp [hc])) m h
theorem pu_dec : ∀ (b u : Nat), u ≤ b → u ≤ 1000000000000 → parseUint10 0 (decDigits u) = .ok u
  | b, u, hb, hu => by
    by_cases h : u < 10
    · rw [decDigits_one h]
      have := digit_nat h
      unfold parseUint10
      rw [if_pos (by omega), if_neg (by omega), if_neg (by omega), parseUint10]
      congr 1
      omega
    · obtain ⟨b, rfl⟩ : ∃ c, b = c + 1 := ⟨b - 1, by omega⟩
      rw [decDigits, dif_neg h, pu_append _ _ _ (dec_all _ _ (Nat.le_refl _)) _ (pu_dec b (u / 10) (by omega) (by omega))]
      have := digit_nat (d := u % 10) (by omega)
      unfold parseUint10
      rw [if_pos (by omega), if_neg (by omega), if_neg (by omega), parseUint10]
      congr 1
      omega
theorem pm_dec {u : Nat} (hu : u ≤ 1000000000000) : parseMag (decDigits u) = .ok u := by
  unfold parseMag
  rw [if_neg (dec_ne u), pu_dec u u (Nat.le_refl _) hu]
theorem atoi_itoa {n : Int} (h : Bd 1000000000000 n) : atoiAll (itoa n) = .ok n := by
  obtain ⟨h1, h2⟩ := h
  by_cases c : n < 0
  · have e : itoa n = 45 :: decDigits n.natAbs := by rw [itoa, if_pos c]
    rw [e]
    unfold atoiAll
    have h45 : (45 : UInt8).toNat = 45 := rfl
    simp only [h45]
    rw [if_pos (.inr trivial), pm_dec (by omega)]
    simp
    rw [if_neg (by omega)]
    congr 1
    omega
  · have e : itoa n = decDigits n.toNat := by rw [itoa, if_neg c]
    obtain ⟨x, r, hx⟩ : ∃ x r, decDigits n.toNat = x :: r := by
      cases hd : decDigits n.toNat with
      | nil => exact absurd hd (dec_ne _)
      | cons x r => exact ⟨x, r, rfl⟩
    have hx1 := dec_all n.toNat n.toNat (Nat.le_refl _) x (by rw [hx]; simp)
    have hp := pm_dec (u := n.toNat) (by omega)
    rw [e, hx]
    unfold atoiAll
    rw [hx] at hp
    simp only []
    rw [if_neg (by omega), hp]
    simp only []
    rw [if_neg (by omega), if_neg (by omega), if_neg (by omega)]
    congr 1
    omega

/-! ### A text cut at each occurrence of a byte -/
/-- The parts that are complete before place i, and where the last one begins. -/
def spl (l : List UInt8) (b : UInt8) : Nat → List (List UInt8) × Nat
  | 0 => ([], 0)
  | i + 1 => if l[i]? = some b then ((spl l b i).1 ++ [(l.drop (spl l b i).2).take (i - (spl l b i).2)], i + 1) else spl l b i
def splitL (l : List UInt8) (b : UInt8) : List (List UInt8) := (spl l b l.length).1 ++ [l.drop (spl l b l.length).2]
theorem spl_le (l : List UInt8) (b : UInt8) : ∀ i, (spl l b i).2 ≤ i
  | 0 => Nat.le_refl _
  | i + 1 => by
    unfold spl
    split
    · exact Nat.le_refl _
    · have := spl_le l b i
      omega
theorem spl_len (l : List UInt8) (b : UInt8) : ∀ i, (spl l b i).1.length ≤ i
  | 0 => Nat.le_refl _
  | i + 1 => by
    have := spl_len l b i
    unfold spl
    split
    · simp
      omega
    · omega
theorem splitL_len (l : List UInt8) (b : UInt8) : (splitL l b).length ≤ l.length + 1 := by
  have := spl_len l b l.length
  unfold splitL
  simp
  omega
def Clean (b : UInt8) (p : List UInt8) : Prop := ∀ c ∈ p, c ≠ b
def fb (b : UInt8) (ps : List (List UInt8)) : List UInt8 := ps.flatMap (· ++ [b])
theorem spl_inv (l : List UInt8) (b : UInt8) : ∀ i, i ≤ l.length → (∀ p ∈ (spl l b i).1, Clean b p) ∧ Clean b ((l.drop (spl l b i).2).take (i - (spl l b i).2)) ∧ fb b (spl l b i).1 = l.take (spl l b i).2
  | 0, _ => by
    refine ⟨fun p hp => by simp [spl] at hp, fun c hc => by simp [spl] at hc, rfl⟩
  | i + 1, hi => by
    obtain ⟨h1, h2, h3⟩ := spl_inv l b i (by omega)
    have hle := spl_le l b i
    unfold spl
    by_cases h : l[i]? = some b
    · rw [if_pos h]
      refine ⟨fun p hp => ?_, fun c hc => by simp at hc, ?_⟩
      · rcases List.mem_append.1 hp with hp | hp
        · exact h1 p hp
        · obtain rfl : p = _ := by simpa using hp
          exact h2
      · show fb b ((spl l b i).1 ++ [(l.drop (spl l b i).2).take (i - (spl l b i).2)]) = l.take (i + 1)
        unfold fb at h3 ⊢
        rw [List.flatMap_append, h3]
        have e : l.take i = l.take (spl l b i).2 ++ (l.drop (spl l b i).2).take (i - (spl l b i).2) := by
          conv => lhs; rw [show i = (spl l b i).2 + (i - (spl l b i).2) by omega, List.take_add]
        rw [List.take_add_one, h, e]
        simp
    · rw [if_neg h]
      refine ⟨h1, fun c hc => ?_, h3⟩
      have e : (l.drop (spl l b i).2).take (i + 1 - (spl l b i).2) = (l.drop (spl l b i).2).take (i - (spl l b i).2) ++ (l[i]?).toList := by
        rw [show i + 1 - (spl l b i).2 = (i - (spl l b i).2) + 1 by omega, List.take_add_one, List.getElem?_drop, show (spl l b i).2 + (i - (spl l b i).2) = i by omega]
      rw [e] at hc
      rcases List.mem_append.1 hc with hd | hd
      · exact h2 c hd
      · intro hcb
        rw [hcb] at hd
        exact h (by simpa using hd)
theorem splitL_clean (l : List UInt8) (b : UInt8) : ∀ p ∈ splitL l b, Clean b p := by
  obtain ⟨h1, h2, _⟩ := spl_inv l b l.length (Nat.le_refl _)
  intro p hp
  unfold splitL at hp
  rcases List.mem_append.1 hp with hp | hp
  · exact h1 p hp
  · obtain rfl : p = _ := by simpa using hp
    rw [List.take_of_length_le (by simp)] at h2
    exact h2
theorem join_fb (b : UInt8) : ∀ (ps : List (List UInt8)) (x : List UInt8), Lib.join (ps ++ [x]) [b] = fb b ps ++ x
  | [], x => by simp [fb, Lib.join_one]
  | p :: ps, x => by
    have ih := join_fb b ps x
    rw [List.cons_append]
    cases ps with
    | nil => simp [fb, Lib.join_cons, Lib.joinTail]
    | cons q ps =>
      rw [List.cons_append, Lib.join_cons] at ih
      rw [List.cons_append, Lib.join_cons]
      simp only [Lib.joinTail, List.map_cons, List.flatten_cons, fb, List.flatMap_cons] at ih ⊢
      rw [List.append_assoc [b], ih]
      simp
theorem join_splitL (l : List UInt8) (b : UInt8) : Lib.join (splitL l b) [b] = l := by
  obtain ⟨_, _, h3⟩ := spl_inv l b l.length (Nat.le_refl _)
  unfold splitL
  rw [join_fb, h3, List.take_append_drop]
/-- Such parts are the only ones. -/
theorem cut_unique (b : UInt8) : ∀ (p q x y : List UInt8), Clean b p → Clean b q → p ++ b :: x = q ++ b :: y → p = q ∧ x = y
  | [], [], x, y, _, _, h => by simpa using h
  | [], c :: q, x, y, _, hq, h => by
    simp at h
    exact absurd h.1.symm (hq c (by simp))
  | c :: p, [], x, y, hp, _, h => by
    simp at h
    exact absurd h.1 (hp c (by simp))
  | c :: p, d :: q, x, y, hp, hq, h => by
    simp only [List.cons_append, List.cons.injEq] at h
    obtain ⟨h1, h2⟩ := cut_unique b p q x y (fun c hc => hp c (by simp [hc])) (fun c hc => hq c (by simp [hc])) h.2
    exact ⟨by rw [h.1, h1], h2⟩
theorem join_unique (b : UInt8) : ∀ (ps qs : List (List UInt8)), ps ≠ [] → qs ≠ [] → (∀ p ∈ ps, Clean b p) → (∀ q ∈ qs, Clean b q) → Lib.join ps [b] = Lib.join qs [b] → ps = qs
  | [], _, h, _, _, _, _ => absurd rfl h
  | _, [], _, h, _, _, _ => absurd rfl h
  | [p], [q], _, _, _, _, h => by rw [Lib.join_one, Lib.join_one] at h; rw [h]
  | [p], q :: r :: qs, _, _, hp, _, h => by
    rw [Lib.join_one, Lib.join_cons] at h
    exact absurd rfl (hp p (by simp) b (by rw [h]; simp [Lib.joinTail]))
  | p :: r :: ps, [q], _, _, _, hq, h => by
    rw [Lib.join_one, Lib.join_cons] at h
    exact absurd rfl (hq q (by simp) b (by rw [← h]; simp [Lib.joinTail]))
  | p :: r :: ps, q :: t :: qs, _, _, hp, hq, h => by
    have e : ∀ (p r : List UInt8) (ps : List (List UInt8)), Lib.join (p :: r :: ps) [b] = p ++ b :: Lib.join (r :: ps) [b] := by
      intro p r ps
      rw [Lib.join_cons, Lib.join_cons]
      simp [Lib.joinTail]
    rw [e, e] at h
    obtain ⟨h1, h2⟩ := cut_unique b p q _ _ (hp p (by simp)) (hq q (by simp)) h
    have h3 := join_unique b (r :: ps) (t :: qs) (by simp) (by simp) (fun x hx => hp x (by simp [hx])) (fun x hx => hq x (by simp [hx])) h2
    rw [h1, h3]
theorem splitL_join (b : UInt8) {ps : List (List UInt8)} (h0 : ps ≠ []) (h : ∀ p ∈ ps, Clean b p) : splitL (Lib.join ps [b]) b = ps :=
  join_unique b _ _ (by unfold splitL; simp) h0 (splitL_clean _ _) h (join_splitL _ _)
end Go.Proofs.YtlfbanoabipacaaDoor
