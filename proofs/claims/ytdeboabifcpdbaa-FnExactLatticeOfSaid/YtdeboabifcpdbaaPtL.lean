/-
  LatticeOf: the reference's way.
-/
import Derived.Test.YtdeboabifcpdbaaPts
namespace Go.Proofs.Ytdeboabifcpdbaa
open Go.RowKit
attribute [local simp, local go_sem] past_cell past_frozen past_tape
theorem all_take (p : Int × Int → Bool) (l : List (Int × Int)) (k : Nat) (h : k < l.length) : (l.take (k + 1)).all p = ((l.take k).all p && p (l.getD k (0, 0))) := by
  rw [List.take_add_one, List.getElem?_eq_getElem h, List.all_append, List.getD_eq_getElem?_getD, List.getElem?_eq_getElem h]
  simp
theorem all_bad (p : Int × Int → Bool) (l : List (Int × Int)) (k : Nat) (h : k < l.length) (hn : p (l.getD k (0, 0)) = false) : l.all p = false := by
  rw [List.getD_eq_getElem?_getD, List.getElem?_eq_getElem h, Option.getD_some] at hn
  rw [List.all_eq_false]
  exact ⟨_, List.getElem_mem h, by simp [hn]⟩
def lpB (l : List (Int × Int)) : Bool := l.all fun g => plainB g.1 g.2
theorem lpB_small {l : List (Int × Int)} (h : lpB l = true) : Small l := by
  intro g hg
  have h1 := List.all_eq_true.1 h g hg
  obtain ⟨a1, a2, a3, a4⟩ := of_decide_eq_true h1
  exact ⟨⟨a1, a2⟩, ⟨a3, a4⟩⟩
/-- When LatticeOf has an answer. -/
def loB (l : List (Int × Int)) : Bool := lpB l && (decide (l.length ≤ 20) && laOk l)
set_option maxRecDepth 100000 in
set_option maxHeartbeats 4000000 in
theorem specLatticeOf_any (g len c : Nat) (zs : List (Int × Int)) (w : World) (h : PRow w (some ⟨g, 0, none⟩) len zs) (hg : g < w.heap.size) (hl : len ≤ 1048576) :
    Calls Try.prog 50 #[.slice (some ⟨g, 0, none⟩) len c] w fun en w' => en = .returned (.tuple #[.agg #[.int .i64 (iz (loB zs) (lT zs).1), .int .i64 (iz (loB zs) (lT zs).2.1), .int .i64 (iz (loB zs) (lT zs).2.2)], .bool (loB zs)]) ∧ Below w.heap.size w w' := by
  obtain ⟨hz, h⟩ := h
  have H := Lib.hid h
  clear h
  go_enter Try.func50, Try.ntmps50
  go_wp2
  go_loopw [8] (fun i wr => ∃ k : Nat, k ≤ len ∧ i = .int .i64 (k : Int) ∧ Hid ((zs.take k).all (fun g => plainB g.1 g.2) = true) ∧ Hid (∀ o, wr.cell? ⟨w.heap.size, o, none⟩ = (#[.int .i64 0, .int .i64 0, .int .i64 0] : Array Value)[o]?) ∧ Hid (∀ o, wr.frozen? ⟨w.heap.size, o, none⟩ = false) ∧ Hid (Below w.heap.size w wr) ∧ w.heap.size < wr.heap.size) (fun i _ => len - (intOf i).toNat)
  case atStart =>
    refine ⟨0, by omega, rfl, rfl, ?_, ?_, ?_, by simp⟩
    · show ∀ o, _ = _
      intro o; simp [go_sem]
    · show ∀ o, _ = _
      intro o; simp [go_sem]
    · show Below _ _ _
      repeat (first | with_reducible exact Below.refl _ _ | with_reducible assumption | ((with_reducible refine blA ?_ ?_); (focus (first | omega | (simp <;> omega)))) | (with_reducible refine blD ?_) | (with_reducible refine blN ?_) | ((with_reducible refine blS ?_ ?_); (focus (first | omega | (simp <;> omega)))) | ((with_reducible refine blT (by assumption) ?_ ?_); (focus (first | omega | (simp <;> omega)))))
  case round =>
    obtain ⟨k, hk, rfl, ha, hc, hf, hb, hlt⟩ := hrel
    have hcr := hc.out
    have hfr := hf.out
    by_cases hkl : k < len
    · rcases H.out with h0 | ⟨b, off, e, hbl, hcell⟩
      · omega
      obtain ⟨rfl, rfl⟩ : g = b ∧ 0 = off := by simpa using e
      obtain ⟨q1, q2⟩ := hcell k hkl
      rw [Nat.zero_add] at q1 q2
      have HT := Lib.hid (all_take (fun g => plainB g.1 g.2) zs k (by omega))
      have HN := Lib.hid (all_bad (fun g => plainB g.1 g.2) zs k (by omega))
      generalize zs.getD k (0, 0) = xy at *
      obtain ⟨x, y⟩ := xy
      have e1 : wr.cell? ⟨g, k * 2, none⟩ = some (.int .i64 x) := by rw [bG hb.out hbl]; exact q1
      have e2 : wr.cell? ⟨g, k * 2 + 1, none⟩ = some (.int .i64 y) := by rw [bG hb.out hbl]; exact q2
      have hbr := hb.out
      clear q1 q2 e
      by_cases hp : plainB x y = true
      · go_wp2_with (go_at_call 58; refine (laPlain_any _ _ _).mono ?_; rintro e w' ⟨rfl, hB⟩; obtain ⟨hC, hF⟩ := bcell hB; have hS := hB.size; (try simp at hS); (try have hSl := Nat.lt_of_succ_le hS); (try have hS0 : w.heap.size < w'.heap.size := by omega); (try have hS1 : w.heap.size + 1 < w'.heap.size := by omega); (try have hS2 : w.heap.size + 1 + 1 < w'.heap.size := by omega); (try have hS3 : w.heap.size + 1 + 1 + 1 < w'.heap.size := by omega))
        go_roundw
        case rel =>
          go_light
          refine ⟨k + 1, by omega, by go_num, ?_, ?_, ?_, ?_, ?_⟩
          · show _ = _
            rw [HT.out, ha.out]
            exact hp
          · show ∀ o, _ = _
            intro o
            rw [bG hB (by simp; omega), cell_alloc_old _ _ _ _ hlt, hcr]
          · show ∀ o, _ = _
            intro o
            rw [fG hB (by simp; omega), frozen_alloc_old _ _ _ _ hlt, hfr]
          · show Below _ _ _
            repeat (first | with_reducible exact Below.refl _ _ | with_reducible assumption | ((with_reducible refine blA ?_ ?_); (focus (first | omega | (simp <;> omega)))) | (with_reducible refine blD ?_) | (with_reducible refine blN ?_) | ((with_reducible refine blS ?_ ?_); (focus (first | omega | (simp <;> omega)))) | ((with_reducible refine blT (by assumption) ?_ ?_); (focus (first | omega | (simp <;> omega)))))
          · omega
        case measure => simp [intOf]; omega
      · have hp' : plainB x y = false := by simpa using hp
        have hs : Hid (loB zs = false) := by
          show _ = _
          rw [loB, show lpB zs = false from HN.out hp']
          rfl
        clear hp
        go_wp2_with (go_at_call 58; refine (laPlain_any _ _ _).mono ?_; rintro e w' ⟨rfl, hB⟩; obtain ⟨hC, hF⟩ := bcell hB; have hS := hB.size; (try simp at hS); (try have hSl := Nat.lt_of_succ_le hS); (try have hS0 : w.heap.size < w'.heap.size := by omega); (try have hS1 : w.heap.size + 1 < w'.heap.size := by omega); (try have hS2 : w.heap.size + 1 + 1 < w'.heap.size := by omega); (try have hS3 : w.heap.size + 1 + 1 + 1 < w'.heap.size := by omega))
        have hcw : ∀ o, w'.cell? ⟨w.heap.size, o, none⟩ = (#[.int .i64 0, .int .i64 0, .int .i64 0] : Array Value)[o]? := fun o => by rw [bG hB (by simp; omega), cell_alloc_old _ _ _ _ hlt, hcr]
        have hBW : Below w.heap.size w w' := by repeat (first | with_reducible exact Below.refl _ _ | with_reducible assumption | ((with_reducible refine blA ?_ ?_); (focus (first | omega | (simp <;> omega)))) | (with_reducible refine blD ?_) | (with_reducible refine blN ?_) | ((with_reducible refine blS ?_ ?_); (focus (first | omega | (simp <;> omega)))) | ((with_reducible refine blT (by assumption) ?_ ?_); (focus (first | omega | (simp <;> omega)))))
        refine bodyPost_ret (v := .tuple #[.agg #[.int .i64 0, .int .i64 0, .int .i64 0], .bool false]) (by go_light; (try clear hC14); (try clear hF14); (try clear hB14); (try clear hC13); (try clear hF13); (try clear hB13); (try clear hC12); (try clear hF12); (try clear hB12); (try clear hC11); (try clear hF11); (try clear hB11); (try clear hC10); (try clear hF10); (try clear hB10); (try clear hC9); (try clear hF9); (try clear hB9); (try clear hC8); (try clear hF8); (try clear hB8); (try clear hC7); (try clear hF7); (try clear hB7); (try clear hC6); (try clear hF6); (try clear hB6); (try clear hC5); (try clear hF5); (try clear hB5); (try clear hC4); (try clear hF4); (try clear hB4); (try clear hC3); (try clear hF3); (try clear hB3); (try clear hC2); (try clear hF2); (try clear hB2); (try clear hC1); (try clear hF1); (try clear hB1); simp [results, Try.results50, go_sem, hcw]) rfl ⟨by go_light; rw [hs.out]; rfl, ?_⟩
        repeat (first | with_reducible exact Below.refl _ _ | with_reducible assumption | ((with_reducible refine blA ?_ ?_); (focus (first | omega | (simp <;> omega)))) | (with_reducible refine blD ?_) | (with_reducible refine blN ?_) | ((with_reducible refine blS ?_ ?_); (focus (first | omega | (simp <;> omega)))) | ((with_reducible refine blT (by assumption) ?_ ?_); (focus (first | omega | (simp <;> omega)))))
    · obtain rfl : k = len := by omega
      have hall : lpB zs = true := by have := ha.out; rw [List.take_of_length_le (by omega)] at this; exact this
      have hbr := hb.out
      have hsz := hbr.size
      by_cases c20 : k ≤ 20
      · have hsm := lpB_small hall
        have hH : Hid (∀ w1, Below w.heap.size w w1 → Calls Try.prog 80 #[.slice (some ⟨g, 0, none⟩) k c] w1 fun en w' => en = .returned (.agg #[.int .i64 ((lT zs).1), .int .i64 ((lT zs).2.1), .int .i64 ((lT zs).2.2)]) ∧ Below w1.heap.size w1 w') := by
          show ∀ w1, _ → _
          intro w1 hB
          have := laHermite_any zs g c w1 (by omega) (by have := hB.size; omega) (fun q hq => by
            rcases H.out with h0 | ⟨b, off, e, hbl, hcell⟩
            · omega
            · obtain ⟨rfl, rfl⟩ : g = b ∧ 0 = off := by simpa using e
              have := hcell q (by omega)
              rw [Nat.zero_add] at this
              rw [bG hB hbl, bG hB hbl]
              exact this) (fitL hsm)
          rw [hz] at this
          exact this
        have hL : OI (lT zs).1 (lT zs).2.1 (lT zs).2.2 := oi_foldL zs (0, 0, 0) hsm oi_zero
        have hI : I64 (lT zs).1 := ⟨by have := hL.a0; omega, by have := hL.aA; omega⟩
        have hs : Hid (loB zs = latB (lT zs).1 (lT zs).2.1 (lT zs).2.2) := by show _ = _; rw [loB, hall, hz, decide_eq_true c20, Bool.true_and, Bool.true_and]; rfl
        clear hall hsm hL
        generalize hx : (lT zs).1 = x at *
        generalize hy : (lT zs).2.1 = y at *
        generalize hzz : (lT zs).2.2 = z at *
        have HX := Lib.hid hx
        have HY := Lib.hid hy
        have HZ := Lib.hid hzz
        clear hx hy hzz
        cases hlat : latB x y z with
        | true =>
          go_wp2_with fail
          refine (hH.out _ hbr).mono ?_
          rintro e1 wa ⟨rfl, hBa⟩
          have hSa := hBa.size
          go_wp2_with fail
          refine (laGood_any x y z wa hI).mono ?_
          rintro e2 wb ⟨rfl, hBb⟩
          have hSb := hBb.size
          have hBr2 : Below w.heap.size w wb := hbr.trans ((hBa.trans (hBb.mono hSa)).mono hsz)
          go_wp2_with fail
          refine (hH.out _ hBr2).mono ?_
          rintro e3 wd ⟨rfl, hBd⟩
          have hSd := hBd.size
          have hcw : ∀ o, wd.cell? ⟨w.heap.size, o, none⟩ = (#[.int .i64 0, .int .i64 0, .int .i64 0] : Array Value)[o]? := fun o => by rw [bG hBd (by omega), bG hBb (by omega), bG hBa (by omega), hcr]
          have hfw : ∀ o, wd.frozen? ⟨w.heap.size, o, none⟩ = false := fun o => by rw [fG hBd (by omega), fG hBb (by omega), fG hBa (by omega), hfr]
          have hBW : Below w.heap.size w wd := hBr2.trans (hBd.mono (by omega))
          clear hBd hBb hBa hBr2
          go_wp2
          refine bodyPost_ret (v := .tuple #[.agg #[.int .i64 x, .int .i64 y, .int .i64 z], .bool true]) (by go_light; (try clear hC14); (try clear hF14); (try clear hB14); (try clear hC13); (try clear hF13); (try clear hB13); (try clear hC12); (try clear hF12); (try clear hB12); (try clear hC11); (try clear hF11); (try clear hB11); (try clear hC10); (try clear hF10); (try clear hB10); (try clear hC9); (try clear hF9); (try clear hB9); (try clear hC8); (try clear hF8); (try clear hB8); (try clear hC7); (try clear hF7); (try clear hB7); (try clear hC6); (try clear hF6); (try clear hB6); (try clear hC5); (try clear hF5); (try clear hB5); (try clear hC4); (try clear hF4); (try clear hB4); (try clear hC3); (try clear hF3); (try clear hB3); (try clear hC2); (try clear hF2); (try clear hB2); (try clear hC1); (try clear hF1); (try clear hB1); simp [results, Try.results50, go_sem, hcw]) rfl ⟨by go_light; rw [hs.out, hlat, HX.out, HY.out, HZ.out]; rfl, ?_⟩
          repeat (first | with_reducible exact Below.refl _ _ | with_reducible assumption | ((with_reducible refine blA ?_ ?_); (focus (first | omega | (simp <;> omega)))) | (with_reducible refine blD ?_) | (with_reducible refine blN ?_) | ((with_reducible refine blS ?_ ?_); (focus (first | omega | (simp <;> omega)))) | ((with_reducible refine blT (by assumption) ?_ ?_); (focus (first | omega | (simp <;> omega)))))
        | false =>
          go_wp2_with fail
          refine (hH.out _ hbr).mono ?_
          rintro e1 wa ⟨rfl, hBa⟩
          have hSa := hBa.size
          go_wp2_with fail
          refine (laGood_any x y z wa hI).mono ?_
          rintro e2 wb ⟨rfl, hBb⟩
          have hSb := hBb.size
          have hcw : ∀ o, wb.cell? ⟨w.heap.size, o, none⟩ = (#[.int .i64 0, .int .i64 0, .int .i64 0] : Array Value)[o]? := fun o => by rw [bG hBb (by omega), bG hBa (by omega), hcr]
          have hfw : ∀ o, wb.frozen? ⟨w.heap.size, o, none⟩ = false := fun o => by rw [fG hBb (by omega), fG hBa (by omega), hfr]
          have hBW : Below w.heap.size w wb := hbr.trans ((hBa.trans (hBb.mono hSa)).mono hsz)
          clear hBb hBa
          go_wp2
          refine bodyPost_ret (v := .tuple #[.agg #[.int .i64 0, .int .i64 0, .int .i64 0], .bool false]) (by go_light; (try clear hC14); (try clear hF14); (try clear hB14); (try clear hC13); (try clear hF13); (try clear hB13); (try clear hC12); (try clear hF12); (try clear hB12); (try clear hC11); (try clear hF11); (try clear hB11); (try clear hC10); (try clear hF10); (try clear hB10); (try clear hC9); (try clear hF9); (try clear hB9); (try clear hC8); (try clear hF8); (try clear hB8); (try clear hC7); (try clear hF7); (try clear hB7); (try clear hC6); (try clear hF6); (try clear hB6); (try clear hC5); (try clear hF5); (try clear hB5); (try clear hC4); (try clear hF4); (try clear hB4); (try clear hC3); (try clear hF3); (try clear hB3); (try clear hC2); (try clear hF2); (try clear hB2); (try clear hC1); (try clear hF1); (try clear hB1); simp [results, Try.results50, go_sem, hcw]) rfl ⟨by go_light; rw [hs.out, hlat]; rfl, ?_⟩
          repeat (first | with_reducible exact Below.refl _ _ | with_reducible assumption | ((with_reducible refine blA ?_ ?_); (focus (first | omega | (simp <;> omega)))) | (with_reducible refine blD ?_) | (with_reducible refine blN ?_) | ((with_reducible refine blS ?_ ?_); (focus (first | omega | (simp <;> omega)))) | ((with_reducible refine blT (by assumption) ?_ ?_); (focus (first | omega | (simp <;> omega)))))
      · have hs : Hid (loB zs = false) := by show _ = _; rw [loB, hz, decide_eq_false c20, Bool.false_and, Bool.and_false]
        go_wp2
        refine bodyPost_ret (v := .tuple #[.agg #[.int .i64 0, .int .i64 0, .int .i64 0], .bool false]) (by go_light; (try clear hC14); (try clear hF14); (try clear hB14); (try clear hC13); (try clear hF13); (try clear hB13); (try clear hC12); (try clear hF12); (try clear hB12); (try clear hC11); (try clear hF11); (try clear hB11); (try clear hC10); (try clear hF10); (try clear hB10); (try clear hC9); (try clear hF9); (try clear hB9); (try clear hC8); (try clear hF8); (try clear hB8); (try clear hC7); (try clear hF7); (try clear hB7); (try clear hC6); (try clear hF6); (try clear hB6); (try clear hC5); (try clear hF5); (try clear hB5); (try clear hC4); (try clear hF4); (try clear hB4); (try clear hC3); (try clear hF3); (try clear hB3); (try clear hC2); (try clear hF2); (try clear hB2); (try clear hC1); (try clear hF1); (try clear hB1); simp [results, Try.results50, go_sem, hcr]) rfl ⟨by go_light; rw [hs.out]; rfl, ?_⟩
        repeat (first | with_reducible exact Below.refl _ _ | with_reducible assumption | ((with_reducible refine blA ?_ ?_); (focus (first | omega | (simp <;> omega)))) | (with_reducible refine blD ?_) | (with_reducible refine blN ?_) | ((with_reducible refine blS ?_ ?_); (focus (first | omega | (simp <;> omega)))) | ((with_reducible refine blT (by assumption) ?_ ?_); (focus (first | omega | (simp <;> omega)))))
end Go.Proofs.Ytdeboabifcpdbaa
