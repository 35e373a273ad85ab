/-
  The product of a matrix with entries up to 10^9 and a small one.
-/
import Derived.Test.YtemnkfigjpphgaaIrc
import Derived.Test.YtemnkfigjpphgaaMix
import Derived.Test.YtemnkfigjpphgaaEnd
import Derived.Maps.AppendAt
import Derived.Deep.AppendLies
import Derived.OwnWalk
namespace Go.Proofs.Ytemnkfigjpphgaa
open Go.RowKit
attribute [local simp, local go_sem] past_cell past_frozen past_tape
theorem wsumW {a b c d : Int} (ha : (a.natAbs : Int) ≤ 1000000000) (hb : (b.natAbs : Int) ≤ 1000000) (hc : (c.natAbs : Int) ≤ 1000000000) (hd : (d.natAbs : Int) ≤ 1000000) : wrap64 (wrap64 (a * b) + wrap64 (c * d)) = a * b + c * d := by
  obtain ⟨x1, x2⟩ := mul_bd (bd_iff.2 ha) (bd_iff.2 hb) (show (1000000000 : Int) * 1000000 ≤ 1000000000000000 by decide)
  obtain ⟨x3, x4⟩ := mul_bd (bd_iff.2 hc) (bd_iff.2 hd) (show (1000000000 : Int) * 1000000 ≤ 1000000000000000 by decide)
  rw [wS (x := a * b) ⟨by omega, by omega⟩, wS (x := c * d) ⟨by omega, by omega⟩, wS ⟨by omega, by omega⟩]
theorem foMul_wide (M N : Mt) (w : World) (h : mle 1000000000 M) (k : mle 1000000 N) :
    Calls Try.prog 80 #[.agg #[.int .i64 M.1, .int .i64 M.2.1, .int .i64 M.2.2.1, .int .i64 M.2.2.2], .agg #[.int .i64 N.1, .int .i64 N.2.1, .int .i64 N.2.2.1, .int .i64 N.2.2.2]] w fun en w' => en = .returned (.agg #[.int .i64 ((mm M N).1), .int .i64 ((mm M N).2.1), .int .i64 ((mm M N).2.2.1), .int .i64 ((mm M N).2.2.2)]) ∧ Below w.heap.size w w' := by
  obtain ⟨h1, h2, h3, h4⟩ := h
  obtain ⟨k1, k2, k3, k4⟩ := k
  have e1 := wsumW h1 k1 h2 k3
  have e2 := wsumW h1 k2 h2 k4
  have e3 := wsumW h3 k1 h4 k3
  have e4 := wsumW h3 k2 h4 k4
  obtain ⟨a, b, c, d⟩ := M
  obtain ⟨p, q, r, s⟩ := N
  simp only [mm] at *
  rw [← e1, ← e2, ← e3, ← e4]
  clear e1 e2 e3 e4 h1 h2 h3 h4 k1 k2 k3 k4
  go_enter Try.func80, Try.ntmps80
  go_wp2
  refine bodyPost_ret (v := .agg #[.int .i64 (wrap64 (wrap64 (a * p) + wrap64 (b * r))), .int .i64 (wrap64 (wrap64 (a * q) + wrap64 (b * s))), .int .i64 (wrap64 (wrap64 (c * p) + wrap64 (d * r))), .int .i64 (wrap64 (wrap64 (c * q) + wrap64 (d * s)))]) (by go_light; simp [results, Try.results80, go_sem, *]) rfl ⟨rfl, ?_⟩
  repeat (first | with_reducible exact Below.refl _ _ | with_reducible assumption | ((with_reducible refine blA ?_ ?_); (focus (first | omega | (simp <;> omega)))) | (with_reducible refine blD ?_) | (with_reducible refine blN ?_) | ((with_reducible refine blS ?_ ?_); (focus (first | omega | (simp <;> omega)))) | ((with_reducible refine blT (by assumption) ?_ ?_); (focus (first | omega | (simp <;> omega)))))
end Go.Proofs.Ytemnkfigjpphgaa

/-
  The program's reduction of an indefinite form, walked.
-/
namespace Go.Proofs.Ytemnkfigjpphgaa
open Go.RowKit
attribute [local simp, local go_sem] past_cell past_frozen past_tape
set_option maxRecDepth 100000 in
set_option maxHeartbeats 8000000 in
theorem toCycle_any (r d a b c : Int) (w : World) (hg : Gd r d (a, b, c)) (hp : posB d = true) :
    Calls Try.prog 88 #[.agg #[.int .i64 a, .int .i64 b, .int .i64 c]] w fun e w' => (∃ (g : Fm) (N : Mt) (ok : Bool), e = .returned (.tuple #[.agg #[.int .i64 g.1, .int .i64 g.2.1, .int .i64 g.2.2], .agg #[.int .i64 N.1, .int .i64 N.2.1, .int .i64 N.2.2.1, .int .i64 N.2.2.2], .bool ok]) ∧ Rd r (a, b, c) mI g N ok) ∧ Below w.heap.size w w' := by
  go_enter Try.func88, Try.ntmps88
  go_wp2_with fail
  refine (one_any' _).mono ?_
  rintro e0 w0 ⟨rfl, hB0⟩
  have hz0 := hB0.size
  simp at hz0
  obtain ⟨wi, ei, hRi⟩ : ∃ wi, w0.alloc (.cells #[.int .i64 1, .int .i64 0, .int .i64 0, .int .i64 1] 40) = wi ∧ RM w wi w0.heap.size (a, b, c) mI := by
    refine ⟨_, rfl, ⟨?_, ?_, ?_, Blk.new _ _ _, ?_, by omega⟩⟩
    · exact ((((Blk.new w 36 #[.int .i64 a, .int .i64 b, .int .i64 c]).alloc _).alloc _).below hB0).alloc _
    · have := ((((Blk.new (w.alloc (.cells #[.int .i64 a, .int .i64 b, .int .i64 c] 36)) 36 #[.int .i64 0, .int .i64 0, .int .i64 0]).alloc _).below hB0).alloc (.cells #[.int .i64 1, .int .i64 0, .int .i64 0, .int .i64 1] 40))
      simpa using this
    · have := (((Blk.new ((w.alloc (.cells #[.int .i64 a, .int .i64 b, .int .i64 c] 36)).alloc (.cells #[.int .i64 0, .int .i64 0, .int .i64 0] 36)) 40 #[.int .i64 0, .int .i64 0, .int .i64 0, .int .i64 0]).below hB0).alloc (.cells #[.int .i64 1, .int .i64 0, .int .i64 0, .int .i64 1] 40))
      simpa using this
    · repeat (first | with_reducible exact Below.refl _ _ | with_reducible assumption | ((with_reducible refine blA ?_ ?_); (focus (first | omega | (simp <;> omega)))) | (with_reducible refine blD ?_) | (with_reducible refine blN ?_) | ((with_reducible refine blS ?_ ?_); (focus (first | omega | (simp <;> omega)))) | ((with_reducible refine blT (by assumption) ?_ ?_); (focus (first | omega | (simp <;> omega)))))
  obtain ⟨bm, hbm⟩ : ∃ bm, w0.heap.size = bm := ⟨_, rfl⟩
  go_wp2_with fail
  try rw [ei]
  try rw [hbm]
  rw [hbm] at hRi
  have HRI := Lib.hid hRi
  have HP := Lib.hid hp
  have HG := Lib.hid hg
  clear hRi hB0 hz0 ei hbm hp hg
  go_loopw [] (fun wr => ∃ (f : Fm) (M : Mt), Hid (RM w wr bm f M) ∧ Hid (Gd r d f) ∧ Hid (mle 1000000 M) ∧ Hid (∀ g N ok, Rd r f M g N ok → Rd r (a, b, c) mI g N ok)) (fun wr => cMs r (intOf ((wr.cell? ⟨w.heap.size, 0, none⟩).getD undef), intOf ((wr.cell? ⟨w.heap.size, 1, none⟩).getD undef), intOf ((wr.cell? ⟨w.heap.size, 2, none⟩).getD undef)))
  case atStart =>
    exact ⟨(a, b, c), mI, HRI, HG, Lib.hid ⟨by decide, by decide, by decide, by decide⟩, Lib.hid fun _ _ _ h => h⟩
  case round =>
    obtain ⟨⟨a1, b1, c1⟩, ⟨p, q, s, t⟩, hR, hG, hM, hD⟩ := hrel
    clear HRI HG
    have HR := hR.out
    have cf := HR.f.cell
    have ff := HR.f.froz
    have cg := HR.g.cell
    have fg := HR.g.froz
    have ch := HR.h.cell
    have fh := HR.h.froz
    have cm := HR.m.cell
    have fm := HR.m.froz
    simp only at cf cm
    cases hred : cyB r (a1, b1, c1) with
    | true =>
      have hcall : Hid (∀ w1, Calls Try.prog 89 #[.agg #[.int .i64 a1, .int .i64 b1, .int .i64 c1]] w1 fun en w' => en = .returned (.bool true) ∧ Below w1.heap.size w1 w') := Lib.hid fun w1 => by rw [← hred]; exact isCyclic_any r d a1 b1 c1 w1 hG.out
      have HF := Lib.hid (hD.out _ _ _ (Rd.stop hred))
      clear hred HR hD
      go_wp2_with fail
      refine (hcall.out _).mono ?_
      rintro e1 w1 ⟨rfl, hB1⟩
      have h1 := hR.out.below hB1
      clear cf ff cg fg ch fh cm fm hB1 hR
      obtain ⟨h1f, h1g, h1h, h1m, h1b, h1n⟩ := h1
      have cf := h1f.cell
      have cg := h1g.cell
      have fg := h1g.froz
      have ch := h1h.cell
      have fh := h1h.froz
      have cm := h1m.cell
      have lf := h1f.lt
      have lg := h1g.lt
      have lh := h1h.lt
      have lm := h1m.lt
      simp only at cf cm
      obtain ⟨w2, e2, k2, z2, g2⟩ := h1g.set3 (.int .i64 a1) (.int .i64 b1) (.int .i64 c1)
      have k2h := h1h.grown g2 (by simp <;> omega)
      have k2m := (h1m.grown g2 (by simp <;> omega)).cell
      obtain ⟨w3, e3, k3, z3, g3⟩ := k2h.set4 (.int .i64 p) (.int .i64 q) (.int .i64 s) (.int .i64 t)
      have k3g := k2.grown g3 (by simp <;> omega)
      have c2h := k2h.cell
      have c3 := k3.cell
      have c3g := k3g.cell
      have f2 := k2h.froz
      simp only at k2m
      have bf : Below w.heap.size w w3 := below_grown (below_grown h1b g2 (by omega) (by omega)) g3 (by omega) (by have := h1b.size; omega)
      go_wp2_with fail
      go_region
      all_goals
        go_wp2_with fail
        refine bodyPost_ret (v := .tuple #[.agg #[.int .i64 a1, .int .i64 b1, .int .i64 c1], .agg #[.int .i64 p, .int .i64 q, .int .i64 s, .int .i64 t], .bool true]) (by go_light; simp [results, Try.results88, go_sem, *]) rfl ⟨⟨(a1, b1, c1), (p, q, s, t), true, rfl, HF.out⟩, ?_⟩
        with_reducible refine blD ?_
        exact bf
    | false =>
      have HCF := Lib.hid cf
      have hcall : Hid (∀ w1, Calls Try.prog 89 #[.agg #[.int .i64 a1, .int .i64 b1, .int .i64 c1]] w1 fun en w' => en = .returned (.bool false) ∧ Below w1.heap.size w1 w') := Lib.hid fun w1 => by rw [← hred]; exact isCyclic_any r d a1 b1 c1 w1 hG.out
      have hnext := Lib.hid fun w1 => implNextForm_any r d a1 b1 c1 w1 hG.out HP.out
      have hml : mle 1000000 (nmg r (a1, b1, c1)) := mB_mle.1 (nmg_mB hG.out)
      have htimes := Lib.hid fun w1 => times_mm (p, q, s, t) (nmg r (a1, b1, c1)) w1 hM.out hml
      have HN := Lib.hid (hG.out.next.1)
      have HMS := Lib.hid (cMs_less hG.out.root hred)
      have HBAD := Lib.hid (fun hb => hD.out _ _ _ (Rd.bad hred hb))
      have HNX := Lib.hid (fun hm g N ok hR => hD.out g N ok (Rd.next hred hm hR))
      clear hD hG hM HR hml
      obtain ⟨⟨G1, G2, G3⟩, hGe⟩ : ∃ G, nbg r (a1, b1, c1) = G := ⟨_, rfl⟩
      obtain ⟨⟨N1, N2, N3, N4⟩, hNe⟩ : ∃ N, nmg r (a1, b1, c1) = N := ⟨_, rfl⟩
      obtain ⟨⟨X1, X2, X3, X4⟩, hXe⟩ : ∃ X, mm (p, q, s, t) (nmg r (a1, b1, c1)) = X := ⟨_, rfl⟩
      rw [hGe] at hnext HN HMS HNX
      rw [hXe] at HBAD HNX htimes
      rw [hNe] at hnext htimes
      simp only at hnext htimes
      clear hGe hNe hXe hred
      go_wp2_with fail
      refine (hcall.out _).mono ?_
      rintro e1 w1 ⟨rfl, hB1⟩
      have h1 := hR.out.below hB1
      clear cf ff cg fg ch fh cm fm hB1 hR
      have cf := h1.f.cell
      simp only at cf
      go_wp2_with fail
      refine (hnext.out _).mono ?_
      rintro e2 w2 ⟨rfl, hB2⟩
      have h2 := h1.below hB2
      clear hB2 h1 cf
      have cm := h2.m.cell
      have lm := h2.m.lt
      have lf := h2.f.lt
      simp only at cm
      go_wp2_with fail
      refine (htimes.out _).mono ?_
      rintro e3 w3 ⟨rfl, hB3⟩
      have h3 := ((h2.alloc _).alloc _).below hB3
      have k3 := ((Blk.new w2 36 #[.int .i64 G1, .int .i64 G2, .int .i64 G3]).alloc _).below hB3
      have z3 := hB3.size
      simp at z3
      clear hB3 h2 cm
      cases hmb : mB X1 X2 X3 X4 with
      | false =>
        have hch := Lib.hid fun w1 => checked_no X1 X2 X3 X4 w1 hmb
        have HF := Lib.hid (HBAD.out (fun h => by have := (mB_mle (M := (X1, X2, X3, X4))).2 h; rw [hmb] at this; cases this))
        clear hmb HBAD HNX
        go_wp2_with fail
        refine (hch.out _).mono ?_
        rintro e4 w4 ⟨rfl, hB4⟩
        have h4 := h3.below hB4
        clear hB4 h3 k3
        have cm := h4.m.cell
        have fm := h4.m.froz
        have cg := h4.g.cell
        have fg := h4.g.froz
        have ch := h4.h.cell
        have fh := h4.h.froz
        have lm' := h4.m.lt
        have lg := h4.g.lt
        have lh := h4.h.lt
        have nb := h4.n
        have hne1 : ¬ bm = w.heap.size + 1 := by omega
        have hne2 : ¬ bm = w.heap.size + 1 + 1 := by omega
        have hne3 : ¬ w.heap.size + 1 = bm := by omega
        have hne4 : ¬ w.heap.size + 1 + 1 = bm := by omega
        have hb4 := h4.b
        simp only at cm
        go_wp2_with fail
        refine bodyPost_ret (v := .tuple #[.agg #[.int .i64 0, .int .i64 0, .int .i64 0], .agg #[.int .i64 0, .int .i64 0, .int .i64 0, .int .i64 0], .bool false]) (by go_light; simp [results, Try.results88, go_sem, *]) rfl ⟨⟨(0, 0, 0), (0, 0, 0, 0), false, rfl, HF.out⟩, ?_⟩
        repeat (first | with_reducible exact Below.refl _ _ | with_reducible assumption | ((with_reducible refine blA ?_ ?_); (focus (first | omega | (simp <;> omega)))) | (with_reducible refine blD ?_) | (with_reducible refine blN ?_) | ((with_reducible refine blS ?_ ?_); (focus (first | omega | (simp <;> omega)))) | ((with_reducible refine blT (by assumption) ?_ ?_); (focus (first | omega | (simp <;> omega)))))
      | true =>
        have hch := Lib.hid fun w1 => checked_yes X1 X2 X3 X4 w1 hmb
        have HF := Lib.hid (HNX.out ((mB_mle (M := (X1, X2, X3, X4))).1 hmb))
        have HML := Lib.hid ((mB_mle (M := (X1, X2, X3, X4))).1 hmb)
        clear hmb HBAD HNX
        go_wp2_with fail
        refine (hch.out _).mono ?_
        rintro e4 w4 ⟨rfl, hB4⟩
        have h4 := h3.below hB4
        have k4 := k3.below hB4
        have z4 := hB4.size
        clear hB4 h3 k3
        have cm := h4.m.cell
        have fm := h4.m.froz
        have lm' := h4.m.lt
        have nb := h4.n
        have cf4 := h4.f.cell
        have ff4 := h4.f.froz
        simp only at cm cf4
        obtain ⟨w5, e5, k5, z5, g5⟩ := h4.m.set4 (.int .i64 X1) (.int .i64 X2) (.int .i64 X3) (.int .i64 X4)
        have f5 := h4.f.grown g5 (by simp <;> omega)
        have kk5 := k4.grown g5 (by simp <;> omega)
        obtain ⟨w6, e6, k6, z6, g6⟩ := f5.set3 (.int .i64 G1) (.int .i64 G2) (.int .i64 G3)
        have hR6 : RM w w6 bm (G1, G2, G3) (X1, X2, X3, X4) :=
          ⟨k6, (h4.g.grown g5 (by simp <;> omega)).grown g6 (by simp <;> omega), (h4.h.grown g5 (by simp <;> omega)).grown g6 (by simp <;> omega), k5.grown g6 (by simp <;> omega), below_grown (below_grown h4.b g5 (by omega) (by have := h4.b.size; omega)) g6 (by omega) (by have := h4.b.size; omega), h4.n⟩
        have c5 := kk5.cell
        have c5f := f5.cell
        have d5f := f5.froz
        have c6f := hR6.f.cell
        have HR6 := Lib.hid hR6
        simp only at c5f c6f
        go_wp2_with fail
        go_roundw
        case rel =>
          go_light
          exact ⟨(G1, G2, G3), (X1, X2, X3, X4), HR6, HN.out, HML.out, HF.out⟩
        case measure =>
          have h0 := HCF.out
          have h1 := HMS.out
          simp [intOf, h0, c6f]
          exact h1
end Go.Proofs.Ytemnkfigjpphgaa

/-
  Rows that a call itself makes: lists of integers and of structs of integers. What the laws do with them: comparing, marking, looking at the marks.
-/
namespace Go.Proofs.Ytemnkfigjpphgaa
open Go.RowKit

section
variable {α : Type} {cs : α → List Value} {s : Nat}
theorem flat_length (hs : ∀ x, (cs x).length = s) (l : List α) : (l.flatMap cs).length = l.length * s := by
  induction l with
  | nil => simp
  | cons x l ih => rw [List.flatMap_cons, List.length_append, ih, hs, List.length_cons, Nat.add_mul]; omega
theorem flat_get (hs : ∀ x, (cs x).length = s) (l : List α) : ∀ (k o : Nat) (x : α), l[k]? = some x → o < s → (l.flatMap cs)[k * s + o]? = (cs x)[o]? := by
  induction l with
  | nil => intro k o x h; simp at h
  | cons y l ih =>
    intro k o x h ho
    rw [List.flatMap_cons]
    cases k with
    | zero =>
      obtain rfl : y = x := by simpa using h
      rw [Nat.zero_mul, Nat.zero_add, List.getElem?_append_left (by rw [hs]; exact ho)]
    | succ k =>
      rw [List.getElem?_append_right (by rw [hs, Nat.add_mul]; omega), hs, show (k + 1) * s + o - s = k * s + o by rw [Nat.add_mul]; omega]
      exact ih k o x (by simpa using h) ho
end

theorem grown_of {w w' : World} (h : Below w.heap.size w w') (r : Option Nat) : w.grownBy w' r := ⟨h.os, h.tape, h.output, h.size, fun k hk _ => h.block k hk⟩

/-- The list lies in a row of the call's own, in a block from B on. -/
def Rw {α : Type} (B : Nat) (t : TypeId) (s : Nat) (cs : α → List Value) (w : World) (v : Value) (l : List α) : Prop := w.ownsRow B t s v l.length (l.flatMap cs)

section
variable {α : Type} {B B' : Nat} {t : TypeId} {cs : α → List Value} {s : Nat} {w w' : World} {v : Value} {l : List α} {a : Option Addr}
theorem Rw.lower (h : Rw B t s cs w v l) (hb : Below B' w w') (hlt : ∀ g, v.ownBlock = some g → g < B') : Rw B t s cs w' v l := by
  refine ⟨h.1, ?_⟩
  rcases h.2 with hn | ⟨g, cap, cur, rfl, hbg, hg, rest⟩
  · exact .inl hn
  · exact .inr ⟨g, cap, cur, rfl, hbg, by rw [hb.block g (hlt g rfl)]; exact hg, rest⟩
theorem Rw.lt (h : Rw B t s cs w v l) : ∀ g, v.ownBlock = some g → B ≤ g ∧ g < w.heap.size := World.ownsRow.lt h
theorem Rw.later (h : Rw B t s cs w v l) (hb : Below w.heap.size w w') : Rw B t s cs w' v l := h.lower hb fun g hg => (h.lt g hg).2
theorem Rw.apart (h : Rw B t s cs w v l) {row : Option Nat} (hg : w.grownBy w' row) (hne : v.ownBlock = none ∨ v.ownBlock ≠ row) : Rw B t s cs w' v l := World.ownsRow.kept h hg hne
theorem Rw.alloc (h : Rw B t s cs w v l) (o : Obj) : Rw B t s cs (w.alloc o) v l := World.ownsRow.alloc h o
theorem Rw.mono (h : Rw B t s cs w v l) (hB : B' ≤ B) : Rw B' t s cs w v l := by
  refine ⟨h.1, ?_⟩
  rcases h.2 with hn | ⟨g, cap, cur, rfl, hbg, rest⟩
  · exact .inl hn
  · exact .inr ⟨g, cap, cur, rfl, Nat.le_trans hB hbg, rest⟩
theorem Rw.nil (B : Nat) (t : TypeId) (s : Nat) (cs : α → List Value) (w : World) : Rw B t s cs w (.slice none 0 0) [] := World.ownsRow_nil _ _ _ _
theorem Rw.empty (hB : B ≤ w.heap.size) : Rw B t s cs (w.alloc (.cells #[] t)) (.slice (some ⟨w.heap.size, 0, none⟩) 0 0) [] :=
  World.ownsRow_made w #[] 0 hB (by decide) (by simp)
theorem Rw.empty2 {g : Nat} (hB : B ≤ g) (hg : w.heap.size = g) : Rw B t s cs (w.alloc (.cells #[] t)) (.slice (some ⟨g, 0, none⟩) 0 0) ([] : List α) := by
  subst hg
  exact Rw.empty hB
/-- What a walk asks of such a row. -/
def Sees (B : Nat) (s : Nat) (cs : α → List Value) (w : World) (a : Option Addr) (l : List α) : Prop :=
  l.length = 0 ∨ ∃ g, a = some ⟨g, 0, none⟩ ∧ B ≤ g ∧ g < w.heap.size ∧ (∀ (k : Nat) (x : α), l[k]? = some x → ∀ o, o < s → w.cell? ⟨g, k * s + o, none⟩ = (cs x)[o]?) ∧ (∀ o, w.frozen? ⟨g, o, none⟩ = false)
theorem Rw.sees (h : Rw B t s cs w v l) (hs : ∀ x, (cs x).length = s) : ∃ a cap, v = .slice a l.length cap ∧ l.length ≤ cap ∧ cap ≤ maxLen ∧ Sees B s cs w a l := by
  rcases h.2 with ⟨hv, h0⟩ | ⟨g, cap, cur, hv, hbg, hg, hnc, hcm, _⟩
  · exact ⟨none, 0, by rw [hv, h0], by omega, by unfold maxLen; omega, .inl h0⟩
  · refine ⟨_, cap, hv, hnc, hcm, .inr ⟨g, rfl, hbg, ?_, fun k x hx o ho => ?_, fun o => ?_⟩⟩
    · exact (h.lt g (by rw [hv]; rfl)).2
    · have hk : k < l.length := by
        rcases Nat.lt_or_ge k l.length with h1 | h1
        · exact h1
        · rw [List.getElem?_eq_none h1] at hx; cases hx
      have h' := h
      unfold Rw at h'
      rw [hv] at h'
      have h1 : k * s + s ≤ l.length * s := by rw [← Nat.succ_mul]; exact Nat.mul_le_mul_right _ hk
      rw [h'.cellAt _ (by omega), flat_get hs l k o x hx ho]
    · have h' := h
      unfold Rw at h'
      rw [hv] at h'
      exact h'.frozenAt o
theorem Rw.seen {n cap : Nat} (h : Rw B t s cs w (.slice a n cap) l) (hs : ∀ x, (cs x).length = s) : Sees B s cs w a l ∧ n = l.length := by
  obtain ⟨a', cap', e, _, _, h1⟩ := h.sees hs
  simp only [Value.slice.injEq] at e
  obtain ⟨rfl, rfl, rfl⟩ := e
  exact ⟨h1, rfl⟩
theorem Sees.below (h : Sees B s cs w a l) (hb : Below w.heap.size w w') : Sees B s cs w' a l := by
  rcases h with h | ⟨g, h1, h2, h3, h4, h5⟩
  · exact .inl h
  · have := hb.size
    exact .inr ⟨g, h1, h2, by omega, fun k x hx o ho => by rw [bG hb h3, h4 k x hx o ho], fun o => by rw [fG hb h3, h5]⟩
/-- Something is appended. -/
theorem app_rw {ops : Array Oper} {rest : List Oper} {o : Oper} {a : Act} {Q : Exit → Act → World → Prop} (w : World) (hgd : o.guard = none) (sl x : Operand) (T : TypeId)
    (ho : o.op = .call { callee := .builtin .append, args := #[sl, x], argTypes := #[T, T] }) (ht : Try.prog.underlying T = some (.slice t))
    (z : Value) (bytes : Nat) (hi : (Try.prog.info? t).map (fun i => (i.zero, i.size, i.bytes)) = some (some z, s, bytes)) (hzs : z.cells.size = s) (hs0 : 0 < s) (hby : bytes ≤ 100) (hs : ∀ x, (cs x).length = s) (ho1 : ∀ x, ∀ u ∈ cs x, u.oneCell' = true)
    (v : Value) (l : List α) (hv : a.eval sl = v) (hown : Rw B t s cs w v l) (h : Nat) (y : α) (hx : a.eval x = .slice (some ⟨h, 0, none⟩) 1 1) (hh : w.heap[h]? = some (.cells (cs y).toArray t (0, 0))) (hl : l.length ≤ 1000000) (hB : B ≤ w.heap.size)
    (K : ∀ v' w', Rw B t s cs w' v' (l ++ [y]) → w.grownBy w' v.ownBlock → (v'.ownBlock = v.ownBlock ∨ v'.ownBlock = some w.heap.size) → wpList Try.prog ops Q rest (a.put o.dst v') w') : wpList Try.prog ops Q (o :: rest) a w := by
  obtain ⟨i, hi1, hz, hsz, hby1⟩ := info_parts hi
  refine wpList_append_own_at w hgd sl x T ho B t i z s bytes ht hi1 hz hsz hby1 hzs hs0 v l.length (l.flatMap cs) hv hown ⟨h, 0, none⟩ 1 1 (cs y) hx (by rw [hs]; omega)
    (fun j u hu => World.news_of_block hh j u (by simpa using hu)) (ho1 y) (by unfold maxLen; omega) ?_ hB ?_
  · have : (l.length + 1) * bytes ≤ 1000001 * 100 := Nat.mul_le_mul (by omega) hby
    omega
  · intro v' w' h1 h2 _ h4
    refine K v' w' ?_ h2 h4
    unfold Rw
    rw [List.length_append, List.flatMap_append]
    simpa using h1
end

/-- A row that has been marked, from k on. -/
def Mk (B : Nat) (t : TypeId) (s : Nat) (w : World) (v : Value) (n : Nat) (k : Int) : Prop := ∃ xs, w.ownsRow B t s v n xs ∧ ∀ j, j < n * s → xs[j]? = some (.int .i64 (k + (j : Int)))
section
variable {B B' : Nat} {t : TypeId} {s : Nat} {w w' : World} {v : Value} {n : Nat} {k : Int}
theorem Mk.lower (h : Mk B t s w v n k) (hb : Below B' w w') (hlt : ∀ g, v.ownBlock = some g → g < B') : Mk B t s w' v n k := by
  obtain ⟨xs, h, hm⟩ := h
  refine ⟨xs, ⟨h.1, ?_⟩, hm⟩
  rcases h.2 with hn | ⟨g, cap, cur, rfl, hbg, hg, rest⟩
  · exact .inl hn
  · exact .inr ⟨g, cap, cur, rfl, hbg, by rw [hb.block g (hlt g rfl)]; exact hg, rest⟩
theorem Mk.lt (h : Mk B t s w v n k) : ∀ g, v.ownBlock = some g → B ≤ g ∧ g < w.heap.size := by
  obtain ⟨xs, h, _⟩ := h
  exact World.ownsRow.lt h
theorem Mk.later (h : Mk B t s w v n k) (hb : Below w.heap.size w w') : Mk B t s w' v n k := h.lower hb fun g hg => (h.lt g hg).2
theorem Mk.apart (h : Mk B t s w v n k) {row : Option Nat} (hg : w.grownBy w' row) (hne : v.ownBlock = none ∨ v.ownBlock ≠ row) : Mk B t s w' v n k := by
  obtain ⟨xs, h, hm⟩ := h
  exact ⟨xs, h.kept hg hne, hm⟩
def MSees (s : Nat) (w : World) (a : Option Addr) (n : Nat) (k : Int) : Prop :=
  n = 0 ∨ ∃ g, a = some ⟨g, 0, none⟩ ∧ g < w.heap.size ∧ ∀ j, j < n * s → w.cell? ⟨g, j, none⟩ = some (.int .i64 (k + (j : Int)))
theorem Mk.sees (h : Mk B t s w v n k) : ∃ a cap, v = .slice a n cap ∧ MSees s w a n k := by
  have hlt := h.lt
  obtain ⟨xs, h, hm⟩ := h
  rcases h.2 with ⟨hv, h0⟩ | ⟨g, cap, cur, hv, hbg, hg, hnc, hcm, _⟩
  · exact ⟨none, 0, by rw [hv, h0], .inl h0⟩
  · refine ⟨_, cap, hv, .inr ⟨g, rfl, (hlt g (by rw [hv]; rfl)).2, fun j hj => ?_⟩⟩
    rw [hv] at h
    rw [h.cellAt j hj, hm j hj]
theorem MSees.below {a : Option Addr} (h : MSees s w a n k) (hb : Below w.heap.size w w') : MSees s w' a n k := by
  rcases h with h | ⟨g, h1, h3, h4⟩
  · exact .inl h
  · have := hb.size
    exact .inr ⟨g, h1, by omega, fun j hj => by rw [bG hb h3, h4 j hj]⟩
end
end Go.Proofs.Ytemnkfigjpphgaa
