/-
  How a law's arguments are opened: a struct of integers (also of structs of integers) that comes by value is an aggregate of integers that fit in 64 bits.
-/
import Derived.Test.YtemnkfigjpphgaaFacts
import Derived.ProofKit
import Derived.OpenShut
import Derived.ShutString
import Derived.ChangeOld
import Derived.Below
import Derived.Carry
namespace Go.Proofs.Ytemnkfigjpphgaa
open Go.ChangeShapes Go.WideShapes Go.ChangeAt Go.RowKit

theorem own : ownKnob Try.prog.godebug = none := by kernel_rfl
theorem laidOut : laidOutB Try.prog = true := laidFact

section
variable {H : Type} {enc : TypeId × Value → H} {w : World} {base : Nat} {spare : Nat → Bool} {held : Bool} {P : Program}

/-- A list of cells that are integers of 64 bits. -/
def Ints (cs : List Value) : Prop := ∃ l : List Int, cs = l.map (.int .i64) ∧ ∀ x ∈ l, -9223372036854775808 ≤ x ∧ x ≤ 9223372036854775807

theorem ints_int {ti : TypeId} {fuel : Nat} {cs : List Value} {x : DataW H × List MemPlace} (hti : P.underlying ti = some (.int .i64)) (h : DataW.trod enc P w base spare held fuel ti cs = some x) : Ints cs := by
  obtain ⟨n, hn, _, hw⟩ := DataW.trod_int hti h
  exact ⟨[n], hn, fun x hx => by simp at hx; subst hx; exact bounds_i64 hw⟩

theorem ints_append {a b : List Value} (ha : Ints a) (hb : Ints b) : Ints (a ++ b) := by
  obtain ⟨l, rfl, hl⟩ := ha
  obtain ⟨m, rfl, hm⟩ := hb
  exact ⟨l ++ m, by simp, fun x hx => by rcases List.mem_append.1 hx with h | h; exact hl x h; exact hm x h⟩

/-- The cells of a struct, field after field. -/
theorem ints_parts {α : Type} (cs : List Value) (p : α → Nat × Nat) : ∀ (fs : List α) (o : Nat), (∀ f ∈ fs, Ints ((cs.drop (p f).1).take (p f).2)) → (∀ i f, fs[i]? = some f → (p f).1 = o + ((fs.take i).map (fun g => (p g).2)).sum) → cs.length = o + (fs.map fun g => (p g).2).sum → Ints (cs.drop o)
  | [], o, _, _, hl => by
    rw [List.drop_of_length_le (by simp at hl; omega)]
    exact ⟨[], rfl, by simp⟩
  | f :: fs, o, h, ho, hl => by
    have h0 : (p f).1 = o := by simpa using ho 0 f rfl
    have hf := h f (by simp)
    rw [h0] at hf
    have hr := ints_parts cs p fs (o + (p f).2) (fun g hg => h g (by simp [hg])) (fun i g hg => by have := ho (i + 1) g (by simpa using hg); simp only [List.take_succ_cons, List.map_cons, List.sum_cons] at this; omega) (by simp at hl; omega)
    have e : cs.drop o = (cs.drop o).take (p f).2 ++ cs.drop (o + (p f).2) := by rw [← List.drop_drop, List.take_append_drop]
    rw [e]
    exact ints_append hf hr

theorem ints_struct {t : TypeId} {fs : Array Field} {fuel : Nat} {cs : List Value} {x : DataW H × List MemPlace} (hs : P.underlying t = some (.struct fs)) (h : DataW.trod enc P w base spare held fuel t cs = some x)
    (hlen : P.cellsOf t = (fs.toList.map fun g => P.cellsOf g.type).sum)
    (hoff : ∀ i f, fs.toList[i]? = some f → f.offset = ((fs.toList.take i).map (fun g => P.cellsOf g.type)).sum)
    (hf : ∀ f ∈ fs.toList, ∀ (fuel' : Nat) (cs' : List Value) (x' : DataW H × List MemPlace), DataW.trod enc P w base spare held fuel' f.type cs' = some x' → Ints cs') : Ints cs := by
  obtain ⟨xs, n, _, _, hl, hxl, hfs⟩ := DataW.trod_struct hs h
  have := ints_parts cs (fun f : Field => (f.offset, P.cellsOf f.type)) fs.toList 0 (fun f hm => by
      obtain ⟨i, hi, he⟩ := List.getElem_of_mem hm
      have hi' : fs[i]? = some f := by rw [← he]; simp
      have h1 := hfs i f hi'
      have hix : i < xs.length := by rw [hxl]; simpa using hi
      rw [List.getElem?_eq_getElem hix] at h1
      exact hf f hm _ _ _ h1) (fun i f hi => by simpa using hoff i f hi) (by rw [hl, hlen]; simp)
  simpa using this

/-- A struct all of whose fields are of one type. -/
theorem ints_uniform {t te : TypeId} {fs : Array Field} {k fuel : Nat} {cs : List Value} {x : DataW H × List MemPlace} (hs : P.underlying t = some (.struct fs)) (hk : P.cellsOf te = k) (hlen : P.cellsOf t = fs.size * k)
    (hall : (fs.toList.zipIdx.all fun f => f.1.type == te && f.1.offset == f.2 * k) = true)
    (hte : ∀ (fuel' : Nat) (cs' : List Value) (x' : DataW H × List MemPlace), DataW.trod enc P w base spare held fuel' te cs' = some x' → Ints cs')
    (h : DataW.trod enc P w base spare held fuel t cs = some x) : Ints cs := by
  have ha : ∀ i f, fs.toList[i]? = some f → f.type = te ∧ f.offset = i * k := by
    intro i f hf
    have := List.all_eq_true.1 hall (f, i) (by
      rw [List.mem_iff_getElem?]; exact ⟨i, by simp [hf]⟩)
    simpa using this
  have hsum : ∀ (l : List Field), (∀ f ∈ l, f.type = te) → (l.map fun g => P.cellsOf g.type).sum = l.length * k := by
    intro l hl
    induction l with
    | nil => simp
    | cons f l ih => simp only [List.map_cons, List.sum_cons, List.length_cons, hl f (by simp), hk, ih (fun g hg => hl g (by simp [hg])), Nat.add_mul]; omega
  have hty : ∀ f ∈ fs.toList, f.type = te := fun f hf => by
    obtain ⟨i, hi⟩ := List.mem_iff_getElem?.1 hf
    exact (ha i f hi).1
  refine ints_struct hs h (by rw [hsum _ hty, hlen]; simp) (fun i f hf => ?_) (fun f hf fuel' cs' x' h' => ?_)
  · rw [hsum _ (fun g hg => hty g (List.mem_of_mem_take hg)), (ha i f hf).2, List.length_take]
    have : i < fs.toList.length := (List.getElem?_eq_some_iff.1 hf).1
    rw [Nat.min_eq_left (by omega)]
  · rw [hty f hf] at h'
    exact hte _ _ _ h'

/-- A parameter that is such a struct: an aggregate of integers. -/
theorem open_struct {r : Reach} {b0 : Nat} {t : TypeId} {fs : Array Field} {v : Value} {d : DataW H} {ps : List MemPlace} (hs : P.underlying t = some (.struct fs)) (hv : Value.okWide P w r b0 t v)
    (h : DataW.Trod enc P w base spare held t v d ps) (hi : ∀ (fuel : Nat) (cs : List Value) (x : DataW H × List MemPlace), DataW.trod enc P w base spare held fuel t cs = some x → Ints cs) :
    ∃ l : List Int, l.length = P.cellsOf t ∧ v = .agg (l.map (.int .i64)).toArray ∧ ∀ x ∈ l, -9223372036854775808 ≤ x ∧ x ≤ 9223372036854775807 := by
  obtain ⟨cs, rfl, hsz⟩ := okWide_struct hs hv
  obtain ⟨fuel, hf⟩ := h
  obtain ⟨l, hl, hb⟩ := hi _ _ _ hf
  have e : cs.toList = l.map (.int .i64) := by simpa [Value.cells] using hl
  refine ⟨l, ?_, ?_, hb⟩
  · have := congrArg List.length e
    simp at this
    rw [← this]; exact hsz
  · rw [← e]
end

theorem list2 {l : List Int} (h : l.length = 2) : ∃ a b, l = [a, b] := by
  match l, h with | [a, b], _ => exact ⟨a, b, rfl⟩
theorem list3 {l : List Int} (h : l.length = 3) : ∃ a b c, l = [a, b, c] := by
  match l, h with | [a, b, c], _ => exact ⟨a, b, c, rfl⟩
theorem list4 {l : List Int} (h : l.length = 4) : ∃ a b c d, l = [a, b, c, d] := by
  match l, h with | [a, b, c, d], _ => exact ⟨a, b, c, d, rfl⟩
theorem list6 {l : List Int} (h : l.length = 6) : ∃ a b c d e f, l = [a, b, c, d, e, f] := by
  match l, h with | [a, b, c, d, e, f], _ => exact ⟨a, b, c, d, e, f, rfl⟩
theorem list8 {l : List Int} (h : l.length = 8) : ∃ a b c d e f g i, l = [a, b, c, d, e, f, g, i] := by
  match l, h with | [a, b, c, d, e, f, g, i], _ => exact ⟨a, b, c, d, e, f, g, i, rfl⟩

theorem int_i64 : Try.prog.underlying 3 = some (.int .i64) := Try.underlying3
end Go.Proofs.Ytemnkfigjpphgaa
