/-
  LatticeOf: the program's way, and the law.
-/
import Derived.Test.YtdeboabifcpdbaaPtL
import Derived.Test.YtdeboabifcpdbaaRws
namespace Go.Proofs.Ytdeboabifcpdbaa
open Go.RowKit
attribute [local simp, local go_sem] past_cell past_frozen past_tape
def c2 (x : Int × Int) : List Value := [.int .i64 x.1, .int .i64 x.2]
theorem c2_len (x : Int × Int) : (c2 x).length = 2 := rfl
theorem c2_one (x : Int × Int) : ∀ u ∈ c2 x, u.oneCell' = true := by intro u hu; simp [c2] at hu; rcases hu with rfl | rfl <;> rfl
theorem app_vec {ops : Array Oper} {rest : List Oper} {o : Oper} {a : Act} {Q : Exit → Act → World → Prop} {w : World} {B : Nat} {v : Value} {l : List (Int × Int)} (hown : Rw B 97 2 c2 w v l) (hgd : o.guard = none) (sl x : Operand) (T : TypeId)
    (ho : o.op = .call { callee := .builtin .append, args := #[sl, x], argTypes := #[T, T] }) (ht : Try.prog.underlying T = some (.slice 97)) (hv : a.eval sl = v) (h : Nat) (y : Int × Int) (hx : a.eval x = .slice (some ⟨h, 0, none⟩) 1 1)
    (hh : w.heap[h]? = some (.cells #[.int .i64 y.1, .int .i64 y.2] 97 (0, 0))) (hl : l.length ≤ 1000000) (hB : B ≤ w.heap.size)
    (K : ∀ v' w', Rw B 97 2 c2 w' v' (l ++ [y]) → w.grownBy w' v.ownBlock → (v'.ownBlock = v.ownBlock ∨ v'.ownBlock = some w.heap.size) → wpList Try.prog ops Q rest (a.put o.dst v') w') : wpList Try.prog ops Q (o :: rest) a w :=
  app_rw w hgd sl x T ho ht (.agg #[.int .i64 0, .int .i64 0]) 16 (by kernel_rfl) rfl (by decide) (by decide) c2_len c2_one v l hv hown h y hx hh hl hB K
theorem take_snoc2 {l : List (Int × Int)} {k : Nat} (h : k < l.length) : l.take (k + 1) = l.take k ++ [l.getD k (0, 0)] := by
  rw [List.take_add_one, List.getElem?_eq_getElem h, List.getD_eq_getElem?_getD, List.getElem?_eq_getElem h]
  simp
theorem rw_own {α : Type} {B : Nat} {t : TypeId} {s : Nat} {cs : α → List Value} {w : World} {v : Value} {l : List α} {q : Nat} (h : Rw B t s cs w v l) (hq : v.ownBlock = some q) : ∃ cap, v = .slice (some ⟨q, 0, none⟩) l.length cap := by
  rcases h.2 with ⟨rfl, _⟩ | ⟨g, cap, cur, rfl, _⟩
  · simp [Value.ownBlock] at hq
  · simp [Value.ownBlock] at hq
    subst hq
    exact ⟨cap, rfl⟩
theorem below_grown2 {B : Nat} {a b c : World} {row : Option Nat} (h : Below B a b) (hg : b.grownBy c row) (hB : B ≤ b.heap.size) (hr : ∀ k, row = some k → B ≤ k) : Below B a c := h.grown hg hB hr
set_option maxRecDepth 100000 in
set_option maxHeartbeats 4000000 in
theorem implLatticeOf_any (g len c : Nat) (zs : List (Int × Int)) (w : World) (h : PRow w (some ⟨g, 0, none⟩) len zs) (hg : g < w.heap.size) (hl : len ≤ 1048576) (hI : ∀ g ∈ zs, I64 g.1 ∧ I64 g.2) :
    Calls Try.prog 52 #[.slice (some ⟨g, 0, none⟩) len c] w fun en w' => en = .returned (.tuple #[.agg #[.int .i64 (iz (loB zs) (lT zs).1), .int .i64 (iz (loB zs) (lT zs).2.1), .int .i64 (iz (loB zs) (lT zs).2.2)], .bool (loB zs)]) ∧ Below w.heap.size w w' := by
  obtain ⟨hz, h⟩ := h
  have H := Lib.hid h
  have HI : Hid (∀ k, k < len → I64 (zs.getD k (0, 0)).1 ∧ I64 (zs.getD k (0, 0)).2) := by
    show ∀ k, _ → _
    intro k hk
    rw [List.getD_eq_getElem?_getD, List.getElem?_eq_getElem (by omega), Option.getD_some]
    exact hI _ (List.getElem_mem _)
  clear h hI
  by_cases c20 : len ≤ 20
  · go_enter Try.func52, Try.ntmps52
    go_wp2
    go_loopw [4, 14] (fun v i wr => ∃ k : Nat, k ≤ len ∧ i = .int .i64 (k : Int) ∧ Hid ((zs.take k).all (fun g => plainB g.1 g.2) = true) ∧ Hid (Rw (w.heap.size + 1) 97 2 c2 wr v (zs.take k)) ∧ Hid (∃ q, v.ownBlock = some q) ∧ Hid (Below (w.heap.size + 1) (w.alloc (.cells #[.int .i64 0, .int .i64 0, .int .i64 0] 25)) wr)) (fun _ i _ => len - (intOf i).toNat)
    case atStart =>
      refine ⟨0, by omega, rfl, rfl, ?_, ⟨_, rfl⟩, ?_⟩
      · show Rw _ _ _ _ _ _ _
        exact Rw.empty2 (Nat.le_refl _) (by simp)
      · show Below _ _ _
        repeat (first | with_reducible exact Below.refl _ _ | with_reducible assumption | ((with_reducible refine blA ?_ ?_); (focus (first | omega | (simp <;> omega)))) | (with_reducible refine blD ?_) | (with_reducible refine blN ?_) | ((with_reducible refine blS ?_ ?_); (focus (first | omega | (simp <;> omega)))) | ((with_reducible refine blT (by assumption) ?_ ?_); (focus (first | omega | (simp <;> omega)))))
    case round =>
      obtain ⟨k, hk, rfl, ha, hr, hq, hb⟩ := hrel
      have hbz := hb.out.size
      simp at hbz
      have hcr : ∀ o, wr.cell? ⟨w.heap.size, o, none⟩ = (#[.int .i64 0, .int .i64 0, .int .i64 0] : Array Value)[o]? := fun o => by rw [bG hb.out (by omega)]; simp [go_sem]
      have hfr : ∀ o, wr.frozen? ⟨w.heap.size, o, none⟩ = false := fun o => by rw [fG hb.out (by omega)]; simp [go_sem]
      have hlt : w.heap.size < wr.heap.size := by omega
      have hbw : Below w.heap.size w wr := ((Below.refl _ _).alloc (Nat.le_refl _) _).trans (hb.out.mono (by omega))
      by_cases hkl : k < len
      · rcases H.out with h0 | ⟨b, off, e, hbl, hcell⟩
        · omega
        obtain ⟨rfl, rfl⟩ : g = b ∧ 0 = off := by simpa using e
        obtain ⟨q1, q2⟩ := hcell k hkl
        rw [Nat.zero_add] at q1 q2
        have HT := Lib.hid (all_take (fun g => plainB g.1 g.2) zs k (by omega))
        have HN := Lib.hid (all_bad (fun g => plainB g.1 g.2) zs k (by omega))
        have HIk := HI.out k hkl
        have HX := Lib.hid (take_snoc2 (l := zs) (k := k) (by omega))
        generalize zs.getD k (0, 0) = xy at *
        obtain ⟨x, y⟩ := xy
        obtain ⟨i1, i2⟩ := HIk
        have e1 : wr.cell? ⟨g, k * 2, none⟩ = some (.int .i64 x) := by rw [bG hbw hbl]; exact q1
        have e2 : wr.cell? ⟨g, k * 2 + 1, none⟩ = some (.int .i64 y) := by rw [bG hbw hbl]; exact q2
        have HW := Lib.hid hbw
        clear q1 q2 e hbw
        by_cases hp : plainB x y = true
        · have hlen : (zs.take k).length ≤ 1000000 := by simp; omega
          go_wp2_with fail
          refine (isPlain_any _ _ _ i1 i2).mono ?_
          rintro e wa ⟨rfl, hBa⟩
          have hza := hBa.size
          simp at hza
          have hRa : Rw (w.heap.size + 1) 97 2 c2 wa _ (zs.take k) := (hr.out.alloc _).later hBa
          have hca : ∀ o, wa.cell? ⟨wr.heap.size, o, none⟩ = (#[.int .i64 x, .int .i64 y] : Array Value)[o]? := fun o => by rw [bG hBa (by simp)]; simp [go_sem]
          have hBa' : Below (w.heap.size + 1) (w.alloc (.cells #[.int .i64 0, .int .i64 0, .int .i64 0] 25)) wa := (hb.out.alloc (by omega) _).trans (hBa.mono (by simp; omega))
          have HBA := Lib.hid hBa'
          have HRA := Lib.hid hRa
          clear hBa hBa' hRa
          go_wp2_with (at_builtin; go_loud (refine app_vec (HRA.out.alloc _) (by rfl) _ _ _ (by rfl) (by kernel_rfl) (by rfl) _ (x, y) (by rfl) (heap_alloc_new _ _) hlen (by simp; omega) ?_))
          intro v' w1 hr1 hg1 hat1
          have hb1 : Below (w.heap.size + 1) (w.alloc (.cells #[.int .i64 0, .int .i64 0, .int .i64 0] 25)) w1 := below_grown2 (HBA.out.alloc (by omega) _) hg1 (by simp; omega) (fun g hg => (hr.out.lt g hg).1)
          have hq1 : ∃ q, v'.ownBlock = some q := by
            obtain ⟨q, hq⟩ := hq.out
            rcases hat1 with h1 | h1
            · exact ⟨q, by rw [h1, hq]⟩
            · exact ⟨_, h1⟩
          have HR1 := Lib.hid hr1
          have HB1 := Lib.hid hb1
          have HQ1 := Lib.hid hq1
          clear hr1 hb1 hq1 hg1 hat1 hlen
          go_wp2
          go_roundw
          case rel =>
            go_light
            refine ⟨k + 1, by omega, by go_num, ?_, ?_, HQ1.out, HB1.out⟩
            · show _ = _
              rw [HT.out, ha.out]
              exact hp
            · show Rw _ _ _ _ _ _ _
              rw [HX.out]
              exact HR1.out
          case measure => simp [intOf]; omega
        · have hp' : plainB x y = false := by simpa using hp
          have hs : Hid (loB zs = false) := by
            show _ = _
            rw [loB, show lpB zs = false from HN.out hp']
            rfl
          clear hp
          go_wp2_with fail
          refine (isPlain_any _ _ _ i1 i2).mono ?_
          rintro e wa ⟨rfl, hBa⟩
          have hza := hBa.size
          simp at hza
          have hcw : ∀ o, wa.cell? ⟨w.heap.size, o, none⟩ = (#[.int .i64 0, .int .i64 0, .int .i64 0] : Array Value)[o]? := fun o => by rw [bG hBa (by simp; omega), cell_alloc_old _ _ _ _ hlt, hcr]
          have hfw : ∀ o, wa.frozen? ⟨w.heap.size, o, none⟩ = false := fun o => by rw [fG hBa (by simp; omega), frozen_alloc_old _ _ _ _ hlt, hfr]
          have hBW : Below w.heap.size w wa := (HW.out.alloc (by omega) _).trans (hBa.mono (by simp; omega))
          have hlt2 : w.heap.size < wa.heap.size := by omega
          clear hBa
          go_wp2
          refine bodyPost_ret (v := .tuple #[.agg #[.int .i64 0, .int .i64 0, .int .i64 0], .bool false]) (by go_light; (try clear hC14); (try clear hF14); (try clear hB14); (try clear hC13); (try clear hF13); (try clear hB13); (try clear hC12); (try clear hF12); (try clear hB12); (try clear hC11); (try clear hF11); (try clear hB11); (try clear hC10); (try clear hF10); (try clear hB10); (try clear hC9); (try clear hF9); (try clear hB9); (try clear hC8); (try clear hF8); (try clear hB8); (try clear hC7); (try clear hF7); (try clear hB7); (try clear hC6); (try clear hF6); (try clear hB6); (try clear hC5); (try clear hF5); (try clear hB5); (try clear hC4); (try clear hF4); (try clear hB4); (try clear hC3); (try clear hF3); (try clear hB3); (try clear hC2); (try clear hF2); (try clear hB2); (try clear hC1); (try clear hF1); (try clear hB1); simp [results, Try.results52, go_sem, hcw]) rfl ⟨by go_light; rw [hs.out]; rfl, ?_⟩
          repeat (first | with_reducible exact Below.refl _ _ | with_reducible assumption | ((with_reducible refine blA ?_ ?_); (focus (first | omega | (simp <;> omega)))) | (with_reducible refine blD ?_) | (with_reducible refine blN ?_) | ((with_reducible refine blS ?_ ?_); (focus (first | omega | (simp <;> omega)))) | ((with_reducible refine blT (by assumption) ?_ ?_); (focus (first | omega | (simp <;> omega)))))
      · obtain rfl : k = len := by omega
        have hall : lpB zs = true := by have := ha.out; rw [List.take_of_length_le (by omega)] at this; exact this
        have hsm := lpB_small hall
        obtain ⟨q, hq⟩ := hq.out
        obtain ⟨cap, rfl⟩ := rw_own hr.out hq
        obtain ⟨hq1, hq2⟩ := hr.out.lt _ hq
        have hsees := (hr.out.seen c2_len).1
        have htk : zs.take k = zs := List.take_of_length_le (by omega)
        rw [htk] at hsees
        have hlen : (zs.take k).length = k := by rw [htk, hz]
        have hC : Hid (∀ w1, Below wr.heap.size wr w1 → Calls Try.prog 82 #[.slice (some ⟨q, 0, none⟩) k cap] w1 fun en w' => en = .returned (.tuple #[.agg #[.int .i64 (iz (laOk zs) (lT zs).1), .int .i64 (iz (laOk zs) (lT zs).2.1), .int .i64 (iz (laOk zs) (lT zs).2.2)], .bool (laOk zs)]) ∧ Below w1.heap.size w1 w') := by
          show ∀ w1, _ → _
          intro w1 hB
          have := latticeOf_any hsm q cap w1 (by omega) (by have := hB.size; omega) (fun r hr => by
            rcases hsees with h0 | ⟨g', e, _, hgl, hcell, _⟩
            · omega
            · obtain rfl : q = g' := by simpa using e
              obtain ⟨x, hx⟩ : ∃ x, zs[r]? = some x := ⟨_, List.getElem?_eq_getElem hr⟩
              have f1 := hcell r x hx 0 (by omega)
              have f2 := hcell r x hx 1 (by omega)
              rw [List.getD_eq_getElem?_getD, hx, Option.getD_some, bG hB (by omega), bG hB (by omega)]
              exact ⟨by simpa [c2] using f1, by simpa [c2] using f2⟩)
          rw [hz] at this
          exact this
        have hs : Hid (loB zs = laOk zs) := by show _ = _; rw [loB, hall, hz, decide_eq_true c20, Bool.true_and, Bool.true_and]
        rw [hlen]
        clear hsees hsm hall hlen htk hq1
        go_wp2_with fail
        refine (hC.out _ (Below.refl _ _)).mono ?_
        rintro e1 wa ⟨rfl, hBa⟩
        have hza := hBa.size
        have hcw : ∀ o, wa.cell? ⟨w.heap.size, o, none⟩ = (#[.int .i64 0, .int .i64 0, .int .i64 0] : Array Value)[o]? := fun o => by rw [bG hBa hlt, hcr]
        have hfw : ∀ o, wa.frozen? ⟨w.heap.size, o, none⟩ = false := fun o => by rw [fG hBa hlt, hfr]
        have hBW : Below w.heap.size w wa := hbw.trans (hBa.mono (by omega))
        have hlt2 : w.heap.size < wa.heap.size := by omega
        clear hBa
        generalize laOk zs = b at *
        go_wp2
        refine bodyPost_ret (v := .tuple #[.agg #[.int .i64 (iz b (lT zs).1), .int .i64 (iz b (lT zs).2.1), .int .i64 (iz b (lT zs).2.2)], .bool b]) (by go_light; (try clear hC14); (try clear hF14); (try clear hB14); (try clear hC13); (try clear hF13); (try clear hB13); (try clear hC12); (try clear hF12); (try clear hB12); (try clear hC11); (try clear hF11); (try clear hB11); (try clear hC10); (try clear hF10); (try clear hB10); (try clear hC9); (try clear hF9); (try clear hB9); (try clear hC8); (try clear hF8); (try clear hB8); (try clear hC7); (try clear hF7); (try clear hB7); (try clear hC6); (try clear hF6); (try clear hB6); (try clear hC5); (try clear hF5); (try clear hB5); (try clear hC4); (try clear hF4); (try clear hB4); (try clear hC3); (try clear hF3); (try clear hB3); (try clear hC2); (try clear hF2); (try clear hB2); (try clear hC1); (try clear hF1); (try clear hB1); simp [results, Try.results52, go_sem, hcw]) rfl ⟨by go_light; rw [hs.out], ?_⟩
        repeat (first | with_reducible exact Below.refl _ _ | with_reducible assumption | ((with_reducible refine blA ?_ ?_); (focus (first | omega | (simp <;> omega)))) | (with_reducible refine blD ?_) | (with_reducible refine blN ?_) | ((with_reducible refine blS ?_ ?_); (focus (first | omega | (simp <;> omega)))) | ((with_reducible refine blT (by assumption) ?_ ?_); (focus (first | omega | (simp <;> omega)))))
  · have hs : Hid (loB zs = false) := by show _ = _; rw [loB, hz, decide_eq_false c20, Bool.false_and, Bool.and_false]
    go_enter Try.func52, Try.ntmps52
    go_wp2
    (refine bodyPost_ret (v := .tuple #[.agg #[.int .i64 0, .int .i64 0, .int .i64 0], .bool false]) ?_ rfl ⟨?_, ?_⟩; (focus (go_light; first | (simp [results, Try.results52, go_sem, *]; done) | (simp (disch := first | omega | (simp <;> omega) | (refine isSome_of ?_ ?_; (focus ((repeat (first | ((with_reducible refine (cell_alloc_old _ _ _ _ ?_).trans ?_); (focus (first | omega | (simp <;> omega)))) | ((with_reducible refine (bG (by assumption) ?_).trans ?_); (focus (first | omega | (simp <;> omega)))))); exact rfl)); simp [go_sem]) | fail) [results, Try.results52, go_sem, *]; done))); (focus (go_light; rw [hs.out]; rfl)); repeat (first | with_reducible exact Below.refl _ _ | with_reducible assumption | ((with_reducible refine blA ?_ ?_); (focus (first | omega | (simp <;> omega)))) | (with_reducible refine blD ?_) | (with_reducible refine blN ?_) | ((with_reducible refine blS ?_ ?_); (focus (first | omega | (simp <;> omega)))) | ((with_reducible refine blT (by assumption) ?_ ?_); (focus (first | omega | (simp <;> omega))))))
theorem eqLattice_same3 (a b d : Int) (w : World) :
    Calls Try.prog 46 #[.agg #[.int .i64 a, .int .i64 b, .int .i64 d], .agg #[.int .i64 a, .int .i64 b, .int .i64 d]] w fun en w' => en = .returned (.bool true) ∧ Below w.heap.size w w' := by
  go_enter Try.func46, Try.ntmps46
  go_wp2
  go_ret
  refine ⟨rfl, ?_⟩
  repeat (first | with_reducible exact Below.refl _ _ | with_reducible assumption | ((with_reducible refine blA ?_ ?_); (focus (first | omega | (simp <;> omega)))) | (with_reducible refine blD ?_) | (with_reducible refine blN ?_) | ((with_reducible refine blS ?_ ?_); (focus (first | omega | (simp <;> omega)))) | ((with_reducible refine blT (by assumption) ?_ ?_); (focus (first | omega | (simp <;> omega)))))
set_option maxRecDepth 100000 in
set_option maxHeartbeats 4000000 in
theorem law_latticeOf (a : Option Addr) (len cap : Nat) (zs : List (Int × Int)) (w : World) (h : PArg w a len zs) (hlc : len ≤ cap) (hl : len ≤ 9223372036854775807) (hI : ∀ g ∈ zs, I64 g.1 ∧ I64 g.2) :
    Calls Try.prog 14 #[.slice a len cap] w fun en w' => en = .returned (.bool true) ∧ Below w.heap.size w w' := by
  have H := Lib.hid h
  have HI := Lib.hid hI
  clear h hI
  by_cases hl2 : 1048576 < (len : Int)
  · go_enter Try.func14, Try.ntmps14
    go_wp2_with fail
    refine (szPointS_any _ _ _ _ _ hl rfl).mono ?_
    rintro e w' ⟨rfl, rfl⟩
    rw [if_pos hl2]
    go_wp2
    go_ret
    exact ⟨rfl, Below.refl _ _⟩
  · go_enter Try.func14, Try.ntmps14
    go_wp2_with fail
    refine (szPointS_any _ _ _ _ _ hl rfl).mono ?_
    rintro e w' ⟨rfl, rfl⟩
    rw [if_neg (by omega)]
    go_wp2_with fail
    refine (toPointS_any _ _ _ _ _ H.out (by omega) hlc).mono ?_
    rintro e1 w1 ⟨g1, rfl, hg1, hg1', hr1, hB1⟩
    have hz1 := hB1.size
    have R1 := Lib.hid hr1
    have B1 := Lib.hid hB1
    clear hr1 hB1
    go_wp2_with fail
    refine (specLatticeOf_any _ _ _ _ _ R1.out hg1' (by omega)).mono ?_
    rintro e2 w2 ⟨rfl, hB2⟩
    have hz2 := hB2.size
    have B2 := Lib.hid hB2
    clear hB2
    go_wp2_with fail
    refine (toPointS_any _ _ _ zs _ (((H.out.later B1.out).later B2.out).later ((Below.refl _ _).alloc (Nat.le_refl _) _)) (by omega) hlc).mono ?_
    rintro e3 w3 ⟨g3, rfl, hg3, hg3', hr3, hB3⟩
    have hz3 := hB3.size
    simp at hz3 hg3
    have R3 := Lib.hid hr3
    have hc3 : ∀ o, w3.cell? ⟨w2.heap.size, o, none⟩ = (#[.int .i64 (iz (loB zs) (lT zs).1), .int .i64 (iz (loB zs) (lT zs).2.1), .int .i64 (iz (loB zs) (lT zs).2.2)] : Array Value)[o]? := by (intro o; (repeat (first | ((with_reducible refine (cell_alloc_old _ _ _ _ ?_).trans ?_); (focus (first | omega | (simp <;> omega)))) | ((with_reducible refine (bC (by assumption) ?_).trans ?_); (focus (first | omega | (simp <;> omega)))) | ((with_reducible refine (bG (by assumption) ?_).trans ?_); (focus (first | omega | (simp <;> omega)))))); simp [go_sem])
    have hf3 : ∀ o, w3.frozen? ⟨w2.heap.size, o, none⟩ = false := by (intro o; (repeat (first | ((with_reducible refine (frozen_alloc_old _ _ _ _ ?_).trans ?_); (focus (first | omega | (simp <;> omega)))) | ((with_reducible refine (fG (by assumption) ?_).trans ?_); (focus (first | omega | (simp <;> omega)))))); simp [go_sem])
    have B3 := Lib.hid (((Below.refl w2.heap.size w2).alloc (Nat.le_refl _) _).trans (hB3.mono (by simp)))
    clear hr3 hB3
    go_wp2_with fail
    refine (implLatticeOf_any _ _ _ _ _ R3.out hg3' (by omega) HI.out).mono ?_
    rintro e4 w4 ⟨rfl, hB4⟩
    have hz4 := hB4.size
    have hc4 : ∀ o, w4.cell? ⟨w2.heap.size, o, none⟩ = (#[.int .i64 (iz (loB zs) (lT zs).1), .int .i64 (iz (loB zs) (lT zs).2.1), .int .i64 (iz (loB zs) (lT zs).2.2)] : Array Value)[o]? := fun o => by rw [bG hB4 (by omega), hc3]
    have hf4 : ∀ o, w4.frozen? ⟨w2.heap.size, o, none⟩ = false := fun o => by rw [fG hB4 (by omega), hf3]
    have hl4 : w2.heap.size < w4.heap.size := by omega
    have hn4 : ¬ w2.heap.size = w4.heap.size := by omega
    have B4 := Lib.hid hB4
    clear hB4 hc3 hf3
    go_wp2_with fail
    refine (eqLattice_same3 _ _ _ _).mono ?_
    rintro e5 w5 ⟨rfl, hB5⟩
    have hz5 := hB5.size
    simp at hz5
    have B5 := Lib.hid (((Below.refl w4.heap.size w4).alloc (Nat.le_refl _) _).trans (hB5.mono (by simp)))
    clear hB5
    have B15 : Below w.heap.size w w5 := B1.out.trans ((B2.out.mono hz1).trans ((B3.out.mono (by omega)).trans ((B4.out.mono (by omega)).trans (B5.out.mono (by omega)))))
    have BB := Lib.hid B15
    clear B15
    go_wp2_with fail
    refine (toPointS_any _ _ _ zs _ (H.out.later BB.out) (by omega) hlc).mono ?_
    rintro e6 w6 ⟨g6, rfl, hg6, hg6', hr6, hB6⟩
    have hz6 := hB6.size
    have R6 := Lib.hid hr6
    have B6 := Lib.hid hB6
    clear hr6 hB6
    go_wp2_with fail
    refine (eqPointS_same _ _ _ _ _ zs _ (((R3.out.later B4.out).later B5.out).later B6.out) R6.out (by omega)).mono ?_
    rintro e7 w7 ⟨rfl, hB7⟩
    go_wp2
    go_ret
    exact ⟨rfl, BB.out.trans ((B6.out.mono (by omega)).trans (hB7.mono (by omega)))⟩
end Go.Proofs.Ytdeboabifcpdbaa
