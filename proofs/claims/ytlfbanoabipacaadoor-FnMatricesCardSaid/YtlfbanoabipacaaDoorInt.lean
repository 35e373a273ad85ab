/-
  How the program reads lists of numbers in texts: the walks.
-/
import Derived.Test.YtlfbanoabipacaaDoorSpl
import Derived.Test.YtlfbanoabipacaaDoorShelfB
import Derived.Test.YtlfbanoabipacaaDoorDiv
import Derived.Lib.AtoiErrMem
import Derived.Laws.RangeAny
namespace Go.Proofs.YtlfbanoabipacaaDoor
open Go.RowKit
attribute [local simp, local go_sem] past_cell past_frozen past_tape
/-- The two errors hold something. -/
def Errs (w : World) : Prop := (∃ te pe, w.cell? ⟨0, 0, none⟩ = some (.iface te pe)) ∧ (∃ te pe, w.cell? ⟨1, 0, none⟩ = some (.iface te pe))
theorem cell_below2 {w w' : World} (hb : Below w.heap.size w w') {a : Addr} {v : Value} (hc : w.cell? a = some v) : w'.cell? a = some v := (hb.cell (World.block_lt_of_cell? w a hc)).trans hc
theorem Errs.below {w w' : World} (h : Errs w) (hb : Below w.heap.size w w') : Errs w' := by
  obtain ⟨⟨t1, p1, h1⟩, ⟨t2, p2, h2⟩⟩ := h
  exact ⟨⟨t1, p1, cell_below2 hb h1⟩, ⟨t2, p2, cell_below2 hb h2⟩⟩
theorem atoi_any (p : List UInt8) (w : World) (hp : p.length ≤ 1048576) (he : Errs w) :
    Calls Tryd.prog 62 #[.string ⟨p.toArray⟩] w fun e w' => (∃ x ev, e = .returned (.tuple #[.int .i64 x, ev]) ∧ ((atO p = some x ∧ ev = .nilIface) ∨ (atO p = none ∧ ∃ tt pp, ev = .iface tt pp))) ∧ Below w.heap.size w w' := by
  have hl : (⟨p.toArray⟩ : ByteArray).data.toList = p := by simp
  have hsz : (⟨p.toArray⟩ : ByteArray).size ≤ 1048576 := by have := len_size ⟨p.toArray⟩; rw [hl] at this; omega
  obtain ⟨⟨t1, p1, h1⟩, ⟨t2, p2, h2⟩⟩ := he
  rcases ha : Lib.atoiAll p with v | _ | _
  · refine (Tryd.strconv_Atoi_ok ⟨p.toArray⟩ (by omega) v (by rw [hl]; exact ha) w).mono ?_
    rintro e w' ⟨rfl, hw⟩
    refine ⟨⟨v, _, rfl, .inl ⟨?_, rfl⟩⟩, ?_⟩
    · unfold atO; rw [ha]
    · rcases hw with rfl | ⟨t, rfl⟩
      · exact Below.refl _ _
      · exact Lib.bytesWorld_below _ _ _
  · refine (Any.strconv_Atoi_syntax Tryd.laysC172 ⟨p.toArray⟩ (by omega) (by rw [hl]; exact ha) _ w h1 (.inr ⟨t1, p1, rfl⟩)).mono ?_
    rintro e w' ⟨N, rfl, _, _, hb⟩
    refine ⟨⟨0, _, rfl, .inr ⟨?_, _, _, rfl⟩⟩, hb⟩
    unfold atO; rw [ha]
  · refine (Tryd.strconv_Atoi_range ⟨p.toArray⟩ (by omega) (by rw [hl]; exact ha) _ w h2 (.inr ⟨t2, p2, rfl⟩)).mono ?_
    rintro e w' ⟨N, rfl, _, _, hb⟩
    refine ⟨⟨_, _, rfl, .inr ⟨?_, _, _, rfl⟩⟩, hb⟩
    unfold atO; rw [ha]
set_option maxHeartbeats 1000000 in
theorem sep_any (x : Nat) (w : World) (hx : x ≤ 1114111) : Calls Tryd.prog 61 #[.int .i32 (x : Int)] w fun e w' => e = .returned (.bool (sepP x)) ∧ w = w' := by
  by_cases c1 : x = 45
  · subst c1
    go_enter Tryd.func61, Tryd.ntmps61
    go_wp2
    go_ret
    exact ⟨rfl, rfl⟩
  · have c1' : ((x : Int) != 45) = true := by simp; omega
    by_cases c2 : x < 48
    · have H : Hid (sepP x = true) := by show _ = _; unfold sepP; simp; omega
      clear c1
      go_enter Tryd.func61, Tryd.ntmps61
      go_wp2
      go_ret
      exact ⟨ret_bool H.out.symm, rfl⟩
    · by_cases c3 : 57 < x
      · have H : Hid (sepP x = true) := by show _ = _; unfold sepP; simp; omega
        clear c1
        go_enter Tryd.func61, Tryd.ntmps61
        go_wp2
        go_ret
        exact ⟨ret_bool (by rw [H.out]; simp; omega), rfl⟩
      · have H : Hid (sepP x = false) := by show _ = _; unfold sepP; simp; omega
        clear c1
        go_enter Tryd.func61, Tryd.ntmps61
        go_wp2
        go_ret
        exact ⟨ret_bool (by rw [H.out]; simp; omega), rfl⟩
theorem sep_pred (w : World) : PredAtRunes Tryd.prog 61 #[] sepP w := by
  intro W x hx _
  unfold FnGives
  refine (sep_any x W hx).mono ?_
  rintro e w' ⟨rfl, rfl⟩
  exact ⟨rfl, 0, rfl⟩
theorem words_len (s : ByteArray) : (Lib.goFieldsP sepP s).length ≤ s.size := by
  have key : ∀ (f pos : Nat) (st : Option Nat) (acc : List (Nat × Nat)), (Lib.spansFromP sepP s f pos st acc).1.length + (if (Lib.spansFromP sepP s f pos st acc).2.isSome then 1 else 0) ≤ acc.length + (if st.isSome then 1 else 0) + (s.size - pos) := by
    intro f
    induction f with
    | zero => intro pos st acc; unfold Lib.spansFromP; exact Nat.le_add_right _ _
    | succ f ih =>
      intro pos st acc
      unfold Lib.spansFromP
      split
      · rename_i hlt
        have hd : 1 ≤ (Utf8.decode s pos).2 := by
          rcases Nat.lt_or_ge (s[pos]'hlt).toNat 128 with h | h
          · rw [decode_ascii s pos hlt h]
            exact Nat.le_refl _
          · exact (decode_high s pos hlt h).2
        split
        · cases st with
          | none =>
            have := ih (pos + (Utf8.decode s pos).2) none acc
            simp at this ⊢
            omega
          | some a =>
            have := ih (pos + (Utf8.decode s pos).2) none (acc ++ [(a, pos)])
            simp at this ⊢
            omega
        · cases st with
          | none =>
            have := ih (pos + (Utf8.decode s pos).2) (some pos) acc
            simp at this ⊢
            omega
          | some a =>
            have := ih (pos + (Utf8.decode s pos).2) (some a) acc
            simp at this ⊢
            omega
      · exact Nat.le_add_right _ _
  have := key s.size 0 none []
  unfold Lib.goFieldsP Lib.spansOfP Lib.closeSpans
  rw [List.length_map]
  split
  · rename_i a ha
    rw [ha] at this
    simp at this ⊢
    omega
  · rename_i ha
    simp at this ⊢
    omega
theorem pieces_bd (s : ByteArray) : ∀ x ∈ Lib.goFieldsP sepP s, x.data.toList.length ≤ s.size := by
  intro x hx
  unfold Lib.goFieldsP at hx
  obtain ⟨y, _, rfl⟩ := List.mem_map.1 hx
  have := ext_size s y.1 y.2
  rw [len_size]
  exact this
theorem rw_words {B : Nat} {w : World} {v : Value} {ws : List ByteArray} (h : w.ownsRow B 9 1 v ws.length (ws.map Value.string)) : Rw B 9 1 cS w v (ws.map fun x => x.data.toList) := by
  unfold Rw
  have e : ∀ ws : List ByteArray, (ws.map fun x => x.data.toList).flatMap cS = ws.map Value.string := by
    intro ws
    induction ws with
    | nil => rfl
    | cons x ws ih =>
      simp only [List.map_cons, List.flatMap_cons]
      rw [ih]
      show Value.string ⟨x.data.toList.toArray⟩ :: ws.map Value.string = _
      rw [ba_eta]
  rw [e, List.length_map]
  exact h
set_option maxRecDepth 100000 in
set_option maxHeartbeats 4000000 in
theorem integersIn_any (s : ByteArray) (w : World) (hs : s.size ≤ 1048576) (he : Errs w) :
    Calls Tryd.prog 29 #[.string s] w fun en w' => ∃ v, en = .returned v ∧ Rw w.heap.size 3 1 c1 w' v (inI s) ∧ Below w.heap.size w w' := by
  have hpl := words_len s
  have hpb : ∀ p ∈ (Lib.goFieldsP sepP s).map (fun x => x.data.toList), p.length ≤ 1048576 := fun p hp => by
    obtain ⟨x, hx, rfl⟩ := List.mem_map.1 hp
    exact Nat.le_trans (pieces_bd s x hx) hs
  have HR : Hid (inI s = (seqO atO ((Lib.goFieldsP sepP s).map (fun x => x.data.toList))).getD []) := by
    show _ = _
    unfold inI
    congr 1
    induction Lib.goFieldsP sepP s with
    | nil => rfl
    | cons x r ih => simp only [List.map_cons, seqO]; rw [ih]
  have hcall : Hid (∀ w0, Calls Tryd.prog 60 #[.string s, .func (.func 61) #[] #[]] w0 fun en w' => ∃ v, en = .returned v ∧ Rw w0.heap.size 9 1 cS w' v ((Lib.goFieldsP sepP s).map (fun x => x.data.toList)) ∧ Below w0.heap.size w0 w') := fun w0 => by
    refine (Tryd.strings_FieldsFunc_runes 61 #[] (enters_of Tryd.func61 (by kernel_rfl) rfl) sepP s w0 (by omega) (sep_pred w0)).mono ?_
    rintro e w' ⟨A, rfl, _, h, hb⟩
    exact ⟨_, rfl, rw_words h, hb⟩
  have hlen : ((Lib.goFieldsP sepP s).map (fun x => x.data.toList)).length ≤ 1048576 := by rw [List.length_map]; omega
  generalize inI s = R at *
  generalize (Lib.goFieldsP sepP s).map (fun x => x.data.toList) = P at *
  obtain ⟨L, hL⟩ : ∃ L, P.length = L := ⟨_, rfl⟩
  have HL := Lib.hid hL
  have HPB := Lib.hid hpb
  have HE := Lib.hid he
  rw [hL] at hlen
  clear hL hpb he hpl
  go_enter Tryd.func29, Tryd.ntmps29
  go_wp2_with fail
  refine (hcall.out _).mono ?_
  rintro e1 w1 ⟨v1, rfl, hr1, hB1⟩
  have hz1 := hB1.size
  try simp at hz1
  obtain ⟨a1, k1, hv1, hk1, _, hs1⟩ := hr1.sees cS_len
  rw [HL.out] at hv1 hk1
  subst hv1
  have B1 := Lib.hid (show Below w.heap.size w w1 by repeat (first | with_reducible exact Below.refl _ _ | with_reducible assumption | ((with_reducible refine blA ?_ ?_); (focus (first | omega | (simp <;> omega)))) | (with_reducible refine blD ?_) | (with_reducible refine blN ?_) | ((with_reducible refine blS ?_ ?_); (focus (first | omega | (simp <;> omega)))) | ((with_reducible refine blT (by assumption) ?_ ?_); (focus (first | omega | (simp <;> omega))))))
  have HR0 : Hid (Rw w.heap.size 3 1 c1 w1 (.slice (some ⟨w.heap.size, 0, none⟩) 0 0) []) := Lib.hid ((Rw.empty (Nat.le_refl _)).later hB1)
  have RD := Lib.hid hr1
  have HAP : Hid (Ap (.slice (some ⟨w.heap.size, 0, none⟩) 0 0) (.slice a1 L k1)) := Lib.hid (fun g h1 h2 => by have q2 := (hr1.lt g h2).1; simp at q2; simp [Value.ownBlock] at h1; omega)
  clear hr1 hs1 hB1
  go_wp2
  go_loopw [3, 12] (fun v i wr => ∃ k : Nat, i = .int .i64 (k : Int) ∧ k ≤ L ∧ (∃ z, Hid (seqO atO (P.take k) = some z) ∧ Hid (Rw w.heap.size 3 1 c1 wr v z)) ∧ Hid (Rw (w.heap.size + 1) 9 1 cS wr (.slice a1 L k1) P) ∧ Hid (Ap v (.slice a1 L k1)) ∧ Hid (Below w.heap.size w wr)) (fun _ i _ => L - (intOf i).toNat)
  case atStart =>
    refine ⟨0, rfl, by omega, ⟨[], rfl, HR0.out⟩, ?_, HAP.out, B1.out⟩
    show Rw _ _ _ _ _ _ _
    simpa using RD.out
  case round =>
    obtain ⟨k, rfl, hk, ⟨z, hz, hr⟩, hrd, hap, hb⟩ := hrel
    have hbz := hb.out.size
    by_cases hlt : k < L
    · obtain ⟨p, hp⟩ := get_some HL.out hlt
      have hpz := HPB.out p (List.mem_of_getElem? hp)
      have hcx : ∃ g, a1 = some ⟨g, 0, none⟩ ∧ g < wr.heap.size ∧ wr.cell? ⟨g, k, none⟩ = some (.string ⟨p.toArray⟩) := by
        rcases (hrd.out.seen cS_len).1 with h0 | ⟨g, rfl, _, hg, hcell, _⟩
        · have := HL.out; omega
        · exact ⟨g, rfl, hg, by have := hcell k p hp 0 (by omega); simpa [cS] using this⟩
      obtain ⟨g, rfl, hgl, hcx⟩ := hcx
      have HTK : Hid (P.take (k + 1) = P.take k ++ [p]) := by show _ = _; rw [List.take_add_one, hp]; rfl
      have HM := Lib.hid (List.mem_of_getElem? hp)
      have hzl : z.length ≤ 3000000 := by
        have h1 := (seqO_some atO _ _ hz.out).1
        rw [List.length_take, HL.out] at h1
        omega
      clear hp
      go_wp2_with fail
      refine (atoi_any p _ hpz (HE.out.below hb.out)).mono ?_
      rintro e2 w2 ⟨⟨x, ev, rfl, hev⟩, hB2⟩
      have hz2 := hB2.size
      have hr2 := hr.out.later hB2
      have hrd2 := hrd.out.later hB2
      have hb2 := hb.out.trans (hB2.mono hbz)
      have HR2 := Lib.hid hr2
      have HRD2 := Lib.hid hrd2
      have HB2 := Lib.hid hb2
      clear hB2 hr2 hrd2 hb2
      rcases hev with ⟨hax, rfl⟩ | ⟨hax, tt, pp, rfl⟩
      · have HS : Hid (seqO atO (P.take (k + 1)) = some (z ++ [x])) := by show _ = _; rw [HTK.out, seqO_snoc, hz.out, hax]
        clear hax
        go_wp2_with (at_builtin; go_loud (refine app_int2 (HR2.out.alloc _) (by rfl) _ _ _ (by rfl) (by kernel_rfl) (by rfl) _ x (by rfl) (heap_alloc_new _ _) hzl (by simp; omega) ?_))
        intro v3 w3 hr3 hg3 hat3
        have hrd3 : Rw (w.heap.size + 1) 9 1 cS w3 _ P := ((HRD2.out.alloc _).apart hg3 hap.out.nel)
        have hap3 := hap.out.app hat3 (fun g hg => by have := (HRD2.out.lt g hg).2; simp; omega)
        have hb3 : Below w.heap.size w w3 := below_of_grown (HB2.out.alloc (by omega) _) hg3 (by simp; omega) (fun g hg => (HR2.out.lt g hg).1)
        have HR3 := Lib.hid hr3
        have HRD3 := Lib.hid hrd3
        have HA3 := Lib.hid hap3
        have HB3 := Lib.hid hb3
        clear hr3 hrd3 hap3 hb3 hg3 hat3 hzl
        go_wp2
        go_roundw
        case rel =>
          go_light
          exact ⟨k + 1, by go_num, by omega, ⟨_, HS.out, HR3.out⟩, HRD3.out, HA3.out, HB3.out⟩
        case measure => simp [intOf]; omega
      · have HN : Hid (R = []) := by show _ = _; rw [HR.out, seqO_none atO HM.out hax]; rfl
        clear hax
        go_wp2
        go_ret
        refine ⟨_, rfl, ?_, HB2.out.alloc (by omega) _⟩
        rw [HN.out]
        exact Rw.empty (by omega)
    · have hkl : k = L := by omega
      subst hkl
      have HRz : Hid (R = z) := by
        show _ = _
        have h1 := hz.out
        rw [List.take_of_length_le (by rw [HL.out]; exact Nat.le_refl _)] at h1
        rw [HR.out, h1]
        rfl
      go_wp2
      go_ret
      refine ⟨_, rfl, ?_, hb.out⟩
      rw [HRz.out]
      exact hr.out
end Go.Proofs.YtlfbanoabipacaaDoor
