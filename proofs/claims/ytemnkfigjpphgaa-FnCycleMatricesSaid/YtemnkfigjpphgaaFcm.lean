/-
  The law FnCycleMatrices. (Printed by mkfcm.py.)
-/
import Derived.Test.YtemnkfigjpphgaaIcl
import Derived.Test.YtemnkfigjpphgaaIcn
import Derived.Test.YtemnkfigjpphgaaIcp
import Derived.Test.YtemnkfigjpphgaaIds
namespace Go.Proofs.Ytemnkfigjpphgaa
open Go.RowKit
attribute [local simp, local go_sem] past_cell past_frozen past_tape
set_option maxRecDepth 100000 in
set_option maxHeartbeats 40000000 in
theorem law_cycleMatrices (a0 : Option Addr) (len0 cap0 : Nat) (a1 : Option Addr) (len1 cap1 : Nat) (w : World) (hc0 : CodeOk w.heap.size w a0 len0) (hc1 : CodeOk w.heap.size w a1 len1) (hl0 : len0 ≤ 9223372036854775807) (hl1 : len1 ≤ 9223372036854775807) :
    Calls Try.prog 4 #[.slice a0 len0 cap0, .slice a1 len1 cap1] w fun en w' => en = .returned (.bool true) ∧ Below w.heap.size w w' := by
  by_cases hbig : bigB len0 len1 = true
  · go_enter Try.func4, Try.ntmps4
    go_wp2_with fail
    refine (big_any _ _ _ _ _ _ _ hl0 hl1).mono ?_
    rintro e0 w1 ⟨rfl, hB⟩
    go_wp2_with fail
    go_ret
    refine ⟨rfl, ?_⟩
    repeat (first | with_reducible exact Below.refl _ _ | with_reducible assumption | ((with_reducible refine blA ?_ ?_); (focus (first | omega | (simp <;> omega)))) | (with_reducible refine blD ?_) | (with_reducible refine blN ?_) | ((with_reducible refine blS ?_ ?_); (focus (first | omega | (simp <;> omega)))) | ((with_reducible refine blT (by assumption) ?_ ?_); (focus (first | omega | (simp <;> omega)))))
  have hbig' : bigB len0 len1 = false := by simpa using hbig
  have hsm : (len0 : Int) ≤ 1048576 ∧ (len1 : Int) ≤ 1048576 := by
    simp only [bigB, Bool.or_eq_false_iff, decide_eq_false_iff_not] at hbig'
    omega
  have HS0 : len0 ≤ 140737488355328 := by omega
  have HS1 : len1 ≤ 140737488355328 := by omega
  go_enter Try.func4, Try.ntmps4
  go_wp2_with fail
  refine (big_any _ _ _ _ _ _ _ hl0 hl1).mono ?_
  rintro e0 va ⟨rfl, hBa⟩
  have HC1 := Lib.hid (fun (x : World) (h : Below w.heap.size w x) => hc1.up h.size h)
  have hc0' := hc0.up hBa.size hBa
  have hWa := Lib.hid hBa
  clear hBa hsm hl0 hl1 hc0 hc1
  go_wp2_with fail
  clear hbig hbig'
  refine (drawCycleMatrix_any a0 len0 cap0 _ hc0' HS0).mono ?_
  rintro e1 v1 ⟨⟨⟨f1, f2, f3⟩, ⟨g1, g2, g3⟩, rfl⟩, hB1⟩
  have hW1 := Lib.hid (hWa.out.trans (hB1.mono hWa.out.size))
  clear hB1 hWa
  obtain ⟨y1, ey1, Kf', Kg', hY1⟩ : ∃ y1, (v1.alloc (.cells #[.int .i64 f1, .int .i64 f2, .int .i64 f3] 36)).alloc (.cells #[.int .i64 g1, .int .i64 g2, .int .i64 g3] 36) = y1 ∧ Hid (Blk (v1.heap.size) 36 #[.int .i64 f1, .int .i64 f2, .int .i64 f3] y1) ∧ Hid (Blk (v1.heap.size + 1) 36 #[.int .i64 g1, .int .i64 g2, .int .i64 g3] y1) ∧ Hid (Below w.heap.size w y1) := by
    exact ⟨_, rfl, Lib.hid (by have h := (Blk.new v1 36 #[.int .i64 f1, .int .i64 f2, .int .i64 f3]).alloc (.cells #[.int .i64 g1, .int .i64 g2, .int .i64 g3] 36); simpa using h), Lib.hid (by have h := Blk.new (v1.alloc (.cells #[.int .i64 f1, .int .i64 f2, .int .i64 f3] 36)) 36 #[.int .i64 g1, .int .i64 g2, .int .i64 g3]; simpa using h), Lib.hid ((hW1.out.alloc hW1.out.size _).alloc (by have := hW1.out.size; simp; omega) _)⟩
  clear hW1
  have Kf := Kf'
  have Kg := Kg'
  clear Kf' Kg'
  have cf := Kf.out.cell
  have lf := Kf.out.lt
  have cg := Kg.out.cell
  have lg := Kg.out.lt
  go_wp2_with fail
  try rw [ey1]
  try clear ey1
  refine (implCycleMatrix_any f1 f2 f3 g1 g2 g3 _).mono ?_
  rintro e2 v2 ⟨⟨⟨m1, m2, m3, m4⟩, ok, rfl, hM⟩, hB2⟩
  clear cf lf cg lg
  replace Kf := Lib.hid (Kf.out.below hB2)
  replace Kg := Lib.hid (Kg.out.below hB2)
  have hW2 := Lib.hid (hY1.out.trans (hB2.mono hY1.out.size))
  clear hB2 hY1
  have HM := Lib.hid hM
  clear hM
  obtain ⟨y2, ey2, Kf', Kg', Km', hY2⟩ : ∃ y2, v2.alloc (.cells #[.int .i64 m1, .int .i64 m2, .int .i64 m3, .int .i64 m4] 40) = y2 ∧ Hid (Blk (v1.heap.size) 36 #[.int .i64 f1, .int .i64 f2, .int .i64 f3] y2) ∧ Hid (Blk (v1.heap.size + 1) 36 #[.int .i64 g1, .int .i64 g2, .int .i64 g3] y2) ∧ Hid (Blk (v2.heap.size) 40 #[.int .i64 m1, .int .i64 m2, .int .i64 m3, .int .i64 m4] y2) ∧ Hid (Below w.heap.size w y2) := by
    exact ⟨_, rfl, Lib.hid ((Kf.out.alloc _)), Lib.hid ((Kg.out.alloc _)), Lib.hid (by have h := Blk.new v2 40 #[.int .i64 m1, .int .i64 m2, .int .i64 m3, .int .i64 m4]; simpa using h), Lib.hid (hW2.out.alloc hW2.out.size _)⟩
  clear Kf Kg hW2
  have Kf := Kf'
  have Kg := Kg'
  have Km := Km'
  clear Kf' Kg' Km'
  have cf := Kf.out.cell
  have lf := Kf.out.lt
  have cg := Kg.out.cell
  have lg := Kg.out.lt
  have cm := Km.out.cell
  have lm := Km.out.lt
  go_wp2_with fail
  try rw [ey2]
  try clear ey2
  refine (specCycleMatrix_any f1 f2 f3 g1 g2 g3 _).mono ?_
  rintro e3 v3 ⟨⟨⟨m1', m2', m3', m4'⟩, ok', rfl, hM'⟩, hB3⟩
  clear cf lf cg lg cm lm
  replace Kf := Lib.hid (Kf.out.below hB3)
  replace Kg := Lib.hid (Kg.out.below hB3)
  replace Km := Lib.hid (Km.out.below hB3)
  have hW3 := Lib.hid (hY2.out.trans (hB3.mono hY2.out.size))
  clear hB3 hY2
  obtain ⟨he1, he2⟩ := HM.out.same hM'
  clear hM'
  simp only [Prod.mk.injEq] at he1
  obtain ⟨rfl, rfl, rfl, rfl⟩ := he1
  subst he2
  obtain ⟨y3, ey3, Kf', Kg', Km', Kn', hY3⟩ : ∃ y3, v3.alloc (.cells #[.int .i64 m1, .int .i64 m2, .int .i64 m3, .int .i64 m4] 40) = y3 ∧ Hid (Blk (v1.heap.size) 36 #[.int .i64 f1, .int .i64 f2, .int .i64 f3] y3) ∧ Hid (Blk (v1.heap.size + 1) 36 #[.int .i64 g1, .int .i64 g2, .int .i64 g3] y3) ∧ Hid (Blk (v2.heap.size) 40 #[.int .i64 m1, .int .i64 m2, .int .i64 m3, .int .i64 m4] y3) ∧ Hid (Blk (v3.heap.size) 40 #[.int .i64 m1, .int .i64 m2, .int .i64 m3, .int .i64 m4] y3) ∧ Hid (Below w.heap.size w y3) := by
    exact ⟨_, rfl, Lib.hid ((Kf.out.alloc _)), Lib.hid ((Kg.out.alloc _)), Lib.hid ((Km.out.alloc _)), Lib.hid (by have h := Blk.new v3 40 #[.int .i64 m1, .int .i64 m2, .int .i64 m3, .int .i64 m4]; simpa using h), Lib.hid (hW3.out.alloc hW3.out.size _)⟩
  clear Kf Kg Km hW3
  have Kf := Kf'
  have Kg := Kg'
  have Km := Km'
  have Kn := Kn'
  clear Kf' Kg' Km' Kn'
  have cf := Kf.out.cell
  have lf := Kf.out.lt
  have cg := Kg.out.cell
  have lg := Kg.out.lt
  have cm := Km.out.cell
  have lm := Km.out.lt
  have cn := Kn.out.cell
  have ln := Kn.out.lt
  go_wp2_with fail
  try rw [ey3]
  try clear ey3
  refine (implSameCycle_any f1 f2 f3 g1 g2 g3 _).mono ?_
  rintro e4 v4 ⟨⟨sa, one, rfl, hS⟩, hB4⟩
  clear cf lf cg lg cm lm cn ln
  replace Kf := Lib.hid (Kf.out.below hB4)
  replace Kg := Lib.hid (Kg.out.below hB4)
  replace Km := Lib.hid (Km.out.below hB4)
  replace Kn := Lib.hid (Kn.out.below hB4)
  have hW4 := Lib.hid (hY3.out.trans (hB4.mono hY3.out.size))
  clear hB4 hY3
  have HS := Lib.hid hS
  clear hS
  have cf := Kf.out.cell
  have lf := Kf.out.lt
  have cg := Kg.out.cell
  have lg := Kg.out.lt
  have cm := Km.out.cell
  have lm := Km.out.lt
  have cn := Kn.out.cell
  have ln := Kn.out.lt
  go_wp2_with fail
  refine (specSameCycle_any f1 f2 f3 g1 g2 g3 _).mono ?_
  rintro e5 v5 ⟨⟨sa', one', rfl, hS'⟩, hB5⟩
  clear cf lf cg lg cm lm cn ln
  replace Kf := Lib.hid (Kf.out.below hB5)
  replace Kg := Lib.hid (Kg.out.below hB5)
  replace Km := Lib.hid (Km.out.below hB5)
  replace Kn := Lib.hid (Kn.out.below hB5)
  have hW5 := Lib.hid (hW4.out.trans (hB5.mono hW4.out.size))
  clear hB5 hW4
  obtain ⟨he1, he2⟩ := HS.out.same hS'
  clear hS'
  subst he1
  subst he2
  have cf := Kf.out.cell
  have lf := Kf.out.lt
  have cg := Kg.out.cell
  have lg := Kg.out.lt
  have cm := Km.out.cell
  have lm := Km.out.lt
  have cn := Kn.out.cell
  have ln := Kn.out.lt
  cases ok with
  | true =>
    obtain ⟨p1, p2, p3, p4, p5, p6⟩ := HM.out.good rfl
    obtain ⟨he1, he2⟩ := HS.out.same p6
    subst he1
    subst he2
    have hff : formB f1 f2 f3 = true := by have h := p1; simp only [indB, Bool.and_eq_true] at h; exact h.1
    have hfg : formB g1 g2 g3 = true := by have h := p2; simp only [indB, Bool.and_eq_true] at h; exact h.1
    have hsub := Lib.hid fun w0 => substitute_yes (f1, f2, f3) (g1, g2, g3) (m1, m2, m3, m4) w0 hff hfg p3 p5
    have hdet := Lib.hid fun w0 => determinant_yes (m1, m2, m3, m4) w0 p3 p4
    simp only at hsub hdet
    clear p1 p2 p3 p4 p5 p6 hff hfg HM
    go_wp2_with fail
    refine (hsub.out _).mono ?_
    rintro e6 v6 ⟨rfl, hB6⟩
    clear cf lf cg lg cm lm cn ln
    replace Kf := Lib.hid (Kf.out.below hB6)
    replace Kg := Lib.hid (Kg.out.below hB6)
    replace Km := Lib.hid (Km.out.below hB6)
    replace Kn := Lib.hid (Kn.out.below hB6)
    have hW6 := Lib.hid (hW5.out.trans (hB6.mono hW5.out.size))
    clear hB6 hW5
    obtain ⟨y6, ey6, Kf', Kg', Km', Kn', Kx', hY6⟩ : ∃ y6, v6.alloc (.cells #[.int .i64 g1, .int .i64 g2, .int .i64 g3] 36) = y6 ∧ Hid (Blk (v1.heap.size) 36 #[.int .i64 f1, .int .i64 f2, .int .i64 f3] y6) ∧ Hid (Blk (v1.heap.size + 1) 36 #[.int .i64 g1, .int .i64 g2, .int .i64 g3] y6) ∧ Hid (Blk (v2.heap.size) 40 #[.int .i64 m1, .int .i64 m2, .int .i64 m3, .int .i64 m4] y6) ∧ Hid (Blk (v3.heap.size) 40 #[.int .i64 m1, .int .i64 m2, .int .i64 m3, .int .i64 m4] y6) ∧ Hid (Blk (v6.heap.size) 36 #[.int .i64 g1, .int .i64 g2, .int .i64 g3] y6) ∧ Hid (Below w.heap.size w y6) := by
      exact ⟨_, rfl, Lib.hid ((Kf.out.alloc _)), Lib.hid ((Kg.out.alloc _)), Lib.hid ((Km.out.alloc _)), Lib.hid ((Kn.out.alloc _)), Lib.hid (by have h := Blk.new v6 36 #[.int .i64 g1, .int .i64 g2, .int .i64 g3]; simpa using h), Lib.hid (hW6.out.alloc hW6.out.size _)⟩
    clear Kf Kg Km Kn hW6
    have Kf := Kf'
    have Kg := Kg'
    have Km := Km'
    have Kn := Kn'
    have Kx := Kx'
    clear Kf' Kg' Km' Kn' Kx'
    have cf := Kf.out.cell
    have lf := Kf.out.lt
    have cg := Kg.out.cell
    have lg := Kg.out.lt
    have cm := Km.out.cell
    have lm := Km.out.lt
    have cn := Kn.out.cell
    have ln := Kn.out.lt
    have cx := Kx.out.cell
    have lx := Kx.out.lt
    go_wp2_with fail
    try rw [ey6]
    try clear ey6
    refine (hdet.out _).mono ?_
    rintro e7 v7 ⟨rfl, hB7⟩
    clear cf lf cg lg cm lm cn ln cx lx
    replace Kf := Lib.hid (Kf.out.below hB7)
    replace Kg := Lib.hid (Kg.out.below hB7)
    replace Km := Lib.hid (Km.out.below hB7)
    replace Kn := Lib.hid (Kn.out.below hB7)
    replace Kx := Lib.hid (Kx.out.below hB7)
    have hW7 := Lib.hid (hY6.out.trans (hB7.mono hY6.out.size))
    clear hB7 hY6
    have cf := Kf.out.cell
    have lf := Kf.out.lt
    have cg := Kg.out.cell
    have lg := Kg.out.lt
    have cm := Km.out.cell
    have lm := Km.out.lt
    have cn := Kn.out.cell
    have ln := Kn.out.lt
    have cx := Kx.out.cell
    have lx := Kx.out.lt
    go_wp2_with fail
    refine (implSameCycle_any g1 g2 g3 f1 f2 f3 _).mono ?_
    rintro e8 v8 ⟨⟨sb, three, rfl, hS2⟩, hB8⟩
    clear cf lf cg lg cm lm cn ln cx lx
    replace Kf := Lib.hid (Kf.out.below hB8)
    replace Kg := Lib.hid (Kg.out.below hB8)
    replace Km := Lib.hid (Km.out.below hB8)
    replace Kn := Lib.hid (Kn.out.below hB8)
    replace Kx := Lib.hid (Kx.out.below hB8)
    have hW8 := Lib.hid (hW7.out.trans (hB8.mono hW7.out.size))
    clear hB8 hW7
    obtain ⟨he1, he2⟩ := HS.out.symm hS2
    clear hS2 HS
    subst he1
    subst he2
    have cf := Kf.out.cell
    have lf := Kf.out.lt
    have cg := Kg.out.cell
    have lg := Kg.out.lt
    have cm := Km.out.cell
    have lm := Km.out.lt
    have cn := Kn.out.cell
    have ln := Kn.out.lt
    have cx := Kx.out.cell
    have lx := Kx.out.lt
    go_wp2_with fail
    clear Kf cf lf Kg cg lg Km cm lm Kn cn ln Kx cx lx
    refine (drawReduce_any a1 len1 cap1 _ (HC1.out _ hW8.out) HS1).mono ?_
    rintro e9 v9 ⟨⟨⟨u1, u2, u3⟩, rfl⟩, hB9⟩
    have hW9 := Lib.hid (hW8.out.trans (hB9.mono hW8.out.size))
    clear hB9 hW8
    obtain ⟨y9, ey9, Ku', hY9⟩ : ∃ y9, v9.alloc (.cells #[.int .i64 u1, .int .i64 u2, .int .i64 u3] 36) = y9 ∧ Hid (Blk (v9.heap.size) 36 #[.int .i64 u1, .int .i64 u2, .int .i64 u3] y9) ∧ Hid (Below w.heap.size w y9) := by
      exact ⟨_, rfl, Lib.hid (by have h := Blk.new v9 36 #[.int .i64 u1, .int .i64 u2, .int .i64 u3]; simpa using h), Lib.hid (hW9.out.alloc hW9.out.size _)⟩
    clear hW9
    have Ku := Ku'
    clear Ku'
    have cu := Ku.out.cell
    have lu := Ku.out.lt
    go_wp2_with fail
    try rw [ey9]
    try clear ey9
    refine (implReduce_any u1 u2 u3 _).mono ?_
    rintro e10 v10 ⟨⟨⟨r1, r2, r3⟩, ⟨k1, k2, k3, k4⟩, three, rfl, hR⟩, hB10⟩
    clear cu lu
    replace Ku := Lib.hid (Ku.out.below hB10)
    have hW10 := Lib.hid (hY9.out.trans (hB10.mono hY9.out.size))
    clear hB10 hY9
    have HR := Lib.hid hR
    clear hR
    obtain ⟨y10, ey10, Ku', Kr', Kk', hY10⟩ : ∃ y10, (v10.alloc (.cells #[.int .i64 r1, .int .i64 r2, .int .i64 r3] 36)).alloc (.cells #[.int .i64 k1, .int .i64 k2, .int .i64 k3, .int .i64 k4] 40) = y10 ∧ Hid (Blk (v9.heap.size) 36 #[.int .i64 u1, .int .i64 u2, .int .i64 u3] y10) ∧ Hid (Blk (v10.heap.size) 36 #[.int .i64 r1, .int .i64 r2, .int .i64 r3] y10) ∧ Hid (Blk (v10.heap.size + 1) 40 #[.int .i64 k1, .int .i64 k2, .int .i64 k3, .int .i64 k4] y10) ∧ Hid (Below w.heap.size w y10) := by
      exact ⟨_, rfl, Lib.hid (((Ku.out.alloc _).alloc _)), Lib.hid (by have h := (Blk.new v10 36 #[.int .i64 r1, .int .i64 r2, .int .i64 r3]).alloc (.cells #[.int .i64 k1, .int .i64 k2, .int .i64 k3, .int .i64 k4] 40); simpa using h), Lib.hid (by have h := Blk.new (v10.alloc (.cells #[.int .i64 r1, .int .i64 r2, .int .i64 r3] 36)) 40 #[.int .i64 k1, .int .i64 k2, .int .i64 k3, .int .i64 k4]; simpa using h), Lib.hid ((hW10.out.alloc hW10.out.size _).alloc (by have := hW10.out.size; simp; omega) _)⟩
    clear Ku hW10
    have Ku := Ku'
    have Kr := Kr'
    have Kk := Kk'
    clear Ku' Kr' Kk'
    have cu := Ku.out.cell
    have lu := Ku.out.lt
    have cr := Kr.out.cell
    have lr := Kr.out.lt
    have ck := Kk.out.cell
    have lk := Kk.out.lt
    go_wp2_with fail
    try rw [ey10]
    try clear ey10
    refine (specReduce_any u1 u2 u3 _).mono ?_
    rintro e11 v11 ⟨⟨⟨r1', r2', r3'⟩, ⟨k1', k2', k3', k4'⟩, three', rfl, hR'⟩, hB11⟩
    clear cu lu cr lr ck lk
    replace Ku := Lib.hid (Ku.out.below hB11)
    replace Kr := Lib.hid (Kr.out.below hB11)
    replace Kk := Lib.hid (Kk.out.below hB11)
    have hW11 := Lib.hid (hY10.out.trans (hB11.mono hY10.out.size))
    clear hB11 hY10
    obtain ⟨he1, he2, he3⟩ := HR.out.same hR'
    clear hR'
    simp only [Prod.mk.injEq] at he1 he2
    obtain ⟨rfl, rfl, rfl⟩ := he1
    obtain ⟨rfl, rfl, rfl, rfl⟩ := he2
    subst he3
    obtain ⟨y11, ey11, Ku', Kr', Kk', Ks', Kt', hY11⟩ : ∃ y11, (v11.alloc (.cells #[.int .i64 r1, .int .i64 r2, .int .i64 r3] 36)).alloc (.cells #[.int .i64 k1, .int .i64 k2, .int .i64 k3, .int .i64 k4] 40) = y11 ∧ Hid (Blk (v9.heap.size) 36 #[.int .i64 u1, .int .i64 u2, .int .i64 u3] y11) ∧ Hid (Blk (v10.heap.size) 36 #[.int .i64 r1, .int .i64 r2, .int .i64 r3] y11) ∧ Hid (Blk (v10.heap.size + 1) 40 #[.int .i64 k1, .int .i64 k2, .int .i64 k3, .int .i64 k4] y11) ∧ Hid (Blk (v11.heap.size) 36 #[.int .i64 r1, .int .i64 r2, .int .i64 r3] y11) ∧ Hid (Blk (v11.heap.size + 1) 40 #[.int .i64 k1, .int .i64 k2, .int .i64 k3, .int .i64 k4] y11) ∧ Hid (Below w.heap.size w y11) := by
      exact ⟨_, rfl, Lib.hid (((Ku.out.alloc _).alloc _)), Lib.hid (((Kr.out.alloc _).alloc _)), Lib.hid (((Kk.out.alloc _).alloc _)), Lib.hid (by have h := (Blk.new v11 36 #[.int .i64 r1, .int .i64 r2, .int .i64 r3]).alloc (.cells #[.int .i64 k1, .int .i64 k2, .int .i64 k3, .int .i64 k4] 40); simpa using h), Lib.hid (by have h := Blk.new (v11.alloc (.cells #[.int .i64 r1, .int .i64 r2, .int .i64 r3] 36)) 40 #[.int .i64 k1, .int .i64 k2, .int .i64 k3, .int .i64 k4]; simpa using h), Lib.hid ((hW11.out.alloc hW11.out.size _).alloc (by have := hW11.out.size; simp; omega) _)⟩
    clear Ku Kr Kk hW11
    have Ku := Ku'
    have Kr := Kr'
    have Kk := Kk'
    have Ks := Ks'
    have Kt := Kt'
    clear Ku' Kr' Kk' Ks' Kt'
    have cu := Ku.out.cell
    have lu := Ku.out.lt
    have cr := Kr.out.cell
    have lr := Kr.out.lt
    have ck := Kk.out.cell
    have lk := Kk.out.lt
    have cs := Ks.out.cell
    have ls := Ks.out.lt
    have ct := Kt.out.cell
    have lt := Kt.out.lt
    cases three with
    | false =>
      go_wp2_with fail
      go_ret
      refine ⟨rfl, ?_⟩
      have hX := hY11.out
      repeat (first | with_reducible exact Below.refl _ _ | with_reducible assumption | ((with_reducible refine blA ?_ ?_); (focus (first | omega | (simp <;> omega)))) | (with_reducible refine blD ?_) | (with_reducible refine blN ?_) | ((with_reducible refine blS ?_ ?_); (focus (first | omega | (simp <;> omega)))) | ((with_reducible refine blT (by assumption) ?_ ?_); (focus (first | omega | (simp <;> omega)))))
    | true =>
      obtain ⟨g1, g2, g3, g4, g5, g6⟩ := HR.out.good rfl
      have hfu : formB u1 u2 u3 = true := by have h := g1; simp only [indB, Bool.and_eq_true] at h; exact h.1
      have hsub := Lib.hid fun w0 => substitute_yes (u1, u2, u3) (r1, r2, r3) (k1, k2, k3, k4) w0 hfu g3.form g4 g6
      have hir : indB r1 r2 r3 = true := g3.ind (ind_pos g1)
      have hcb : cyB (isqrt (discW r1 r2 r3)) (r1, r2, r3) = true := by rw [g3.dw, g3.sq]; exact cyB_iff.2 g2
      have hicf := Lib.hid fun w0 => isCyclicForm_yes (r1, r2, r3) w0 hir hcb
      obtain ⟨n, hn⟩ := ci_of g2 g3
      have hcof := Lib.hid fun w0 => cycleOf_yes u1 u2 u3 _ _ _ _ n w0 HR.out hn
      have hcln := Lib.hid fun w0 => cycleLength_yes u1 u2 u3 _ _ _ _ n w0 HR.out hn
      have hn1 : 1 ≤ n := by have := hn.lt; omega
      obtain ⟨R, hRR⟩ : ∃ R, isqrt (discW u1 u2 u3) = R := ⟨_, rfl⟩
      simp only [hRR] at hcof
      simp only at hsub hicf
      clear g1 g2 g3 g4 g5 g6 hfu hir hcb hn hRR HR
      go_wp2_with fail
      try rw [ey11]
      refine (hsub.out _).mono ?_
      rintro e12 v12 ⟨rfl, hB12⟩
      clear cu lu cr lr ck lk cs ls ct lt
      replace Ku := Lib.hid (Ku.out.below hB12)
      replace Kr := Lib.hid (Kr.out.below hB12)
      replace Kk := Lib.hid (Kk.out.below hB12)
      replace Ks := Lib.hid (Ks.out.below hB12)
      replace Kt := Lib.hid (Kt.out.below hB12)
      have hW12 := Lib.hid (hY11.out.trans (hB12.mono hY11.out.size))
      clear hB12 hY11
      obtain ⟨y12, ey12, Ku', Kr', Kk', Ks', Kt', Kh', hY12⟩ : ∃ y12, v12.alloc (.cells #[.int .i64 r1, .int .i64 r2, .int .i64 r3] 36) = y12 ∧ Hid (Blk (v9.heap.size) 36 #[.int .i64 u1, .int .i64 u2, .int .i64 u3] y12) ∧ Hid (Blk (v10.heap.size) 36 #[.int .i64 r1, .int .i64 r2, .int .i64 r3] y12) ∧ Hid (Blk (v10.heap.size + 1) 40 #[.int .i64 k1, .int .i64 k2, .int .i64 k3, .int .i64 k4] y12) ∧ Hid (Blk (v11.heap.size) 36 #[.int .i64 r1, .int .i64 r2, .int .i64 r3] y12) ∧ Hid (Blk (v11.heap.size + 1) 40 #[.int .i64 k1, .int .i64 k2, .int .i64 k3, .int .i64 k4] y12) ∧ Hid (Blk (v12.heap.size) 36 #[.int .i64 r1, .int .i64 r2, .int .i64 r3] y12) ∧ Hid (Below w.heap.size w y12) := by
        exact ⟨_, rfl, Lib.hid ((Ku.out.alloc _)), Lib.hid ((Kr.out.alloc _)), Lib.hid ((Kk.out.alloc _)), Lib.hid ((Ks.out.alloc _)), Lib.hid ((Kt.out.alloc _)), Lib.hid (by have h := Blk.new v12 36 #[.int .i64 r1, .int .i64 r2, .int .i64 r3]; simpa using h), Lib.hid (hW12.out.alloc hW12.out.size _)⟩
      clear Ku Kr Kk Ks Kt hW12
      have Ku := Ku'
      have Kr := Kr'
      have Kk := Kk'
      have Ks := Ks'
      have Kt := Kt'
      have Kh := Kh'
      clear Ku' Kr' Kk' Ks' Kt' Kh'
      have cu := Ku.out.cell
      have lu := Ku.out.lt
      have cr := Kr.out.cell
      have lr := Kr.out.lt
      have ck := Kk.out.cell
      have lk := Kk.out.lt
      have cs := Ks.out.cell
      have ls := Ks.out.lt
      have ct := Kt.out.cell
      have lt := Kt.out.lt
      have ch := Kh.out.cell
      have lh := Kh.out.lt
      go_wp2_with fail
      try rw [ey12]
      try clear ey12
      refine (hicf.out _).mono ?_
      rintro e13 v13 ⟨rfl, hB13⟩
      clear cu lu cr lr ck lk cs ls ct lt ch lh
      replace Ku := Lib.hid (Ku.out.below hB13)
      replace Kr := Lib.hid (Kr.out.below hB13)
      replace Kk := Lib.hid (Kk.out.below hB13)
      replace Ks := Lib.hid (Ks.out.below hB13)
      replace Kt := Lib.hid (Kt.out.below hB13)
      replace Kh := Lib.hid (Kh.out.below hB13)
      have hW13 := Lib.hid (hY12.out.trans (hB13.mono hY12.out.size))
      clear hB13 hY12
      have cu := Ku.out.cell
      have lu := Ku.out.lt
      have cr := Kr.out.cell
      have lr := Kr.out.lt
      have ck := Kk.out.cell
      have lk := Kk.out.lt
      have cs := Ks.out.cell
      have ls := Ks.out.lt
      have ct := Kt.out.cell
      have lt := Kt.out.lt
      have ch := Kh.out.cell
      have lh := Kh.out.lt
      go_wp2_with fail
      refine (hcof.out _).mono ?_
      rintro e14 v14 ⟨⟨vl, rfl, hrw⟩, hB14⟩
      clear cu lu cr lr ck lk cs ls ct lt ch lh
      replace Ku := Lib.hid (Ku.out.below hB14)
      replace Kr := Lib.hid (Kr.out.below hB14)
      replace Kk := Lib.hid (Kk.out.below hB14)
      replace Ks := Lib.hid (Ks.out.below hB14)
      replace Kt := Lib.hid (Kt.out.below hB14)
      replace Kh := Lib.hid (Kh.out.below hB14)
      have hW14 := Lib.hid (hW13.out.trans (hB14.mono hW13.out.size))
      clear hB14 hW13
      obtain ⟨la, lc, hvl, _, _, hse⟩ := hrw.sees c3_len
      rw [cyc_length] at hvl
      subst hvl
      obtain ⟨gl, rfl, hgl⟩ : ∃ gl, la = some ⟨gl, 0, none⟩ ∧ Hid (gl < v14.heap.size ∧ v14.cell? ⟨gl, 0, none⟩ = some (.int .i64 r1) ∧ v14.cell? ⟨gl, 1, none⟩ = some (.int .i64 r2) ∧ v14.cell? ⟨gl, 2, none⟩ = some (.int .i64 r3)) := by
        rcases hse with h0 | ⟨gl, h1, _, h3, h4, _⟩
        · rw [cyc_length] at h0; omega
        · have hx := h4 0 (r1, r2, r3) (by rw [cyc_get R n _ 0 (by omega)]; rfl)
          exact ⟨gl, h1, Lib.hid ⟨h3, by simpa [c3] using hx 0 (by omega), by simpa [c3] using hx 1 (by omega), by simpa [c3] using hx 2 (by omega)⟩⟩
      clear hrw hse
      have cu := Ku.out.cell
      have lu := Ku.out.lt
      have cr := Kr.out.cell
      have lr := Kr.out.lt
      have ck := Kk.out.cell
      have lk := Kk.out.lt
      have cs := Ks.out.cell
      have ls := Ks.out.lt
      have ct := Kt.out.cell
      have lt := Kt.out.lt
      have ch := Kh.out.cell
      have lh := Kh.out.lt
      go_wp2_with fail
      refine (hcln.out _).mono ?_
      rintro e15 v15 ⟨rfl, hB15⟩
      clear cu lu cr lr ck lk cs ls ct lt ch lh
      replace Ku := Lib.hid (Ku.out.below hB15)
      replace Kr := Lib.hid (Kr.out.below hB15)
      replace Kk := Lib.hid (Kk.out.below hB15)
      replace Ks := Lib.hid (Ks.out.below hB15)
      replace Kt := Lib.hid (Kt.out.below hB15)
      replace Kh := Lib.hid (Kh.out.below hB15)
      have hl2 : gl < v15.heap.size ∧ v15.cell? ⟨gl, 0, none⟩ = some (.int .i64 r1) ∧ v15.cell? ⟨gl, 1, none⟩ = some (.int .i64 r2) ∧ v15.cell? ⟨gl, 2, none⟩ = some (.int .i64 r3) := by
        obtain ⟨h0, h1, h2, h3⟩ := hgl.out
        have hz := hB15.size
        exact ⟨by omega, by rw [bC hB15 h0]; exact h1, by rw [bC hB15 h0]; exact h2, by rw [bC hB15 h0]; exact h3⟩
      have hW15 := Lib.hid (hW14.out.trans (hB15.mono hW14.out.size))
      clear hB15 hW14
      have cu := Ku.out.cell
      have lu := Ku.out.lt
      have cr := Kr.out.cell
      have lr := Kr.out.lt
      have ck := Kk.out.cell
      have lk := Kk.out.lt
      have cs := Ks.out.cell
      have ls := Ks.out.lt
      have ct := Kt.out.cell
      have lt := Kt.out.lt
      have ch := Kh.out.cell
      have lh := Kh.out.lt
      obtain ⟨lgl, q0, q1, q2⟩ := hl2
      have hn0 : 0 < n := hn1
      have hn0' : decide (0 < n) = true := decide_eq_true hn0
      clear hgl
      go_wp2_with fail
      refine wp_region_past (by kernel_rfl) (by kernel_rfl) ?_
      repeat (first | go_big_quiet_skip | (go_big_quiet_want; go_big_quiet_op; first | go_big_quiet_on | (apply Exists.intro; refine ⟨fun _ => ?_, ?_⟩; (focus (fail)); go_big_quiet_on)))
      refine wpQuiet_nil ?_
      intro w1 hw'
      have hB1 := past_below hw'
      clear hw'
      obtain ⟨hC1, hF1⟩ := bcell hB1
      have hS1 := hB1.size
      (try simp at hS1)
      (try have hS1_w0 : w.heap.size < w1.heap.size := by omega)
      (try have hS1_w1 : w.heap.size + 1 < w1.heap.size := by omega)
      (try have hS1_w2 : w.heap.size + 1 + 1 < w1.heap.size := by omega)
      (try have hS1_w3 : w.heap.size + 1 + 1 + 1 < w1.heap.size := by omega)
      (try have hS1_w4 : w.heap.size + 1 + 1 + 1 + 1 < w1.heap.size := by omega)
      have hZ := Lib.hid (hW15.out.trans (hB1.mono hW15.out.size))
      go_wp2_with fail
      go_ret
      refine ⟨rfl, ?_⟩
      exact hZ.out
  | false =>
    clear HM
    cases one with
    | true =>
      go_wp2_with fail
      refine (implSameCycle_any g1 g2 g3 f1 f2 f3 _).mono ?_
      rintro e16 v16 ⟨⟨sb, three, rfl, hS2⟩, hB16⟩
      clear cf lf cg lg cm lm cn ln
      replace Kf := Lib.hid (Kf.out.below hB16)
      replace Kg := Lib.hid (Kg.out.below hB16)
      replace Km := Lib.hid (Km.out.below hB16)
      replace Kn := Lib.hid (Kn.out.below hB16)
      have hW16 := Lib.hid (hW5.out.trans (hB16.mono hW5.out.size))
      clear hB16 hW5
      obtain ⟨he1, he2⟩ := HS.out.symm hS2
      clear hS2 HS
      subst he1
      subst he2
      have cf := Kf.out.cell
      have lf := Kf.out.lt
      have cg := Kg.out.cell
      have lg := Kg.out.lt
      have cm := Km.out.cell
      have lm := Km.out.lt
      have cn := Kn.out.cell
      have ln := Kn.out.lt
      go_wp2_with fail
      clear Kf cf lf Kg cg lg Km cm lm Kn cn ln
      refine (drawReduce_any a1 len1 cap1 _ (HC1.out _ hW16.out) HS1).mono ?_
      rintro e17 v17 ⟨⟨⟨u1, u2, u3⟩, rfl⟩, hB17⟩
      have hW17 := Lib.hid (hW16.out.trans (hB17.mono hW16.out.size))
      clear hB17 hW16
      obtain ⟨y17, ey17, Ku', hY17⟩ : ∃ y17, v17.alloc (.cells #[.int .i64 u1, .int .i64 u2, .int .i64 u3] 36) = y17 ∧ Hid (Blk (v17.heap.size) 36 #[.int .i64 u1, .int .i64 u2, .int .i64 u3] y17) ∧ Hid (Below w.heap.size w y17) := by
        exact ⟨_, rfl, Lib.hid (by have h := Blk.new v17 36 #[.int .i64 u1, .int .i64 u2, .int .i64 u3]; simpa using h), Lib.hid (hW17.out.alloc hW17.out.size _)⟩
      clear hW17
      have Ku := Ku'
      clear Ku'
      have cu := Ku.out.cell
      have lu := Ku.out.lt
      go_wp2_with fail
      try rw [ey17]
      try clear ey17
      refine (implReduce_any u1 u2 u3 _).mono ?_
      rintro e18 v18 ⟨⟨⟨r1, r2, r3⟩, ⟨k1, k2, k3, k4⟩, three, rfl, hR⟩, hB18⟩
      clear cu lu
      replace Ku := Lib.hid (Ku.out.below hB18)
      have hW18 := Lib.hid (hY17.out.trans (hB18.mono hY17.out.size))
      clear hB18 hY17
      have HR := Lib.hid hR
      clear hR
      obtain ⟨y18, ey18, Ku', Kr', Kk', hY18⟩ : ∃ y18, (v18.alloc (.cells #[.int .i64 r1, .int .i64 r2, .int .i64 r3] 36)).alloc (.cells #[.int .i64 k1, .int .i64 k2, .int .i64 k3, .int .i64 k4] 40) = y18 ∧ Hid (Blk (v17.heap.size) 36 #[.int .i64 u1, .int .i64 u2, .int .i64 u3] y18) ∧ Hid (Blk (v18.heap.size) 36 #[.int .i64 r1, .int .i64 r2, .int .i64 r3] y18) ∧ Hid (Blk (v18.heap.size + 1) 40 #[.int .i64 k1, .int .i64 k2, .int .i64 k3, .int .i64 k4] y18) ∧ Hid (Below w.heap.size w y18) := by
        exact ⟨_, rfl, Lib.hid (((Ku.out.alloc _).alloc _)), Lib.hid (by have h := (Blk.new v18 36 #[.int .i64 r1, .int .i64 r2, .int .i64 r3]).alloc (.cells #[.int .i64 k1, .int .i64 k2, .int .i64 k3, .int .i64 k4] 40); simpa using h), Lib.hid (by have h := Blk.new (v18.alloc (.cells #[.int .i64 r1, .int .i64 r2, .int .i64 r3] 36)) 40 #[.int .i64 k1, .int .i64 k2, .int .i64 k3, .int .i64 k4]; simpa using h), Lib.hid ((hW18.out.alloc hW18.out.size _).alloc (by have := hW18.out.size; simp; omega) _)⟩
      clear Ku hW18
      have Ku := Ku'
      have Kr := Kr'
      have Kk := Kk'
      clear Ku' Kr' Kk'
      have cu := Ku.out.cell
      have lu := Ku.out.lt
      have cr := Kr.out.cell
      have lr := Kr.out.lt
      have ck := Kk.out.cell
      have lk := Kk.out.lt
      go_wp2_with fail
      try rw [ey18]
      try clear ey18
      refine (specReduce_any u1 u2 u3 _).mono ?_
      rintro e19 v19 ⟨⟨⟨r1', r2', r3'⟩, ⟨k1', k2', k3', k4'⟩, three', rfl, hR'⟩, hB19⟩
      clear cu lu cr lr ck lk
      replace Ku := Lib.hid (Ku.out.below hB19)
      replace Kr := Lib.hid (Kr.out.below hB19)
      replace Kk := Lib.hid (Kk.out.below hB19)
      have hW19 := Lib.hid (hY18.out.trans (hB19.mono hY18.out.size))
      clear hB19 hY18
      obtain ⟨he1, he2, he3⟩ := HR.out.same hR'
      clear hR'
      simp only [Prod.mk.injEq] at he1 he2
      obtain ⟨rfl, rfl, rfl⟩ := he1
      obtain ⟨rfl, rfl, rfl, rfl⟩ := he2
      subst he3
      obtain ⟨y19, ey19, Ku', Kr', Kk', Ks', Kt', hY19⟩ : ∃ y19, (v19.alloc (.cells #[.int .i64 r1, .int .i64 r2, .int .i64 r3] 36)).alloc (.cells #[.int .i64 k1, .int .i64 k2, .int .i64 k3, .int .i64 k4] 40) = y19 ∧ Hid (Blk (v17.heap.size) 36 #[.int .i64 u1, .int .i64 u2, .int .i64 u3] y19) ∧ Hid (Blk (v18.heap.size) 36 #[.int .i64 r1, .int .i64 r2, .int .i64 r3] y19) ∧ Hid (Blk (v18.heap.size + 1) 40 #[.int .i64 k1, .int .i64 k2, .int .i64 k3, .int .i64 k4] y19) ∧ Hid (Blk (v19.heap.size) 36 #[.int .i64 r1, .int .i64 r2, .int .i64 r3] y19) ∧ Hid (Blk (v19.heap.size + 1) 40 #[.int .i64 k1, .int .i64 k2, .int .i64 k3, .int .i64 k4] y19) ∧ Hid (Below w.heap.size w y19) := by
        exact ⟨_, rfl, Lib.hid (((Ku.out.alloc _).alloc _)), Lib.hid (((Kr.out.alloc _).alloc _)), Lib.hid (((Kk.out.alloc _).alloc _)), Lib.hid (by have h := (Blk.new v19 36 #[.int .i64 r1, .int .i64 r2, .int .i64 r3]).alloc (.cells #[.int .i64 k1, .int .i64 k2, .int .i64 k3, .int .i64 k4] 40); simpa using h), Lib.hid (by have h := Blk.new (v19.alloc (.cells #[.int .i64 r1, .int .i64 r2, .int .i64 r3] 36)) 40 #[.int .i64 k1, .int .i64 k2, .int .i64 k3, .int .i64 k4]; simpa using h), Lib.hid ((hW19.out.alloc hW19.out.size _).alloc (by have := hW19.out.size; simp; omega) _)⟩
      clear Ku Kr Kk hW19
      have Ku := Ku'
      have Kr := Kr'
      have Kk := Kk'
      have Ks := Ks'
      have Kt := Kt'
      clear Ku' Kr' Kk' Ks' Kt'
      have cu := Ku.out.cell
      have lu := Ku.out.lt
      have cr := Kr.out.cell
      have lr := Kr.out.lt
      have ck := Kk.out.cell
      have lk := Kk.out.lt
      have cs := Ks.out.cell
      have ls := Ks.out.lt
      have ct := Kt.out.cell
      have lt := Kt.out.lt
      cases three with
      | false =>
        go_wp2_with fail
        go_ret
        refine ⟨rfl, ?_⟩
        have hX := hY19.out
        repeat (first | with_reducible exact Below.refl _ _ | with_reducible assumption | ((with_reducible refine blA ?_ ?_); (focus (first | omega | (simp <;> omega)))) | (with_reducible refine blD ?_) | (with_reducible refine blN ?_) | ((with_reducible refine blS ?_ ?_); (focus (first | omega | (simp <;> omega)))) | ((with_reducible refine blT (by assumption) ?_ ?_); (focus (first | omega | (simp <;> omega)))))
      | true =>
        obtain ⟨g1, g2, g3, g4, g5, g6⟩ := HR.out.good rfl
        have hfu : formB u1 u2 u3 = true := by have h := g1; simp only [indB, Bool.and_eq_true] at h; exact h.1
        have hsub := Lib.hid fun w0 => substitute_yes (u1, u2, u3) (r1, r2, r3) (k1, k2, k3, k4) w0 hfu g3.form g4 g6
        have hir : indB r1 r2 r3 = true := g3.ind (ind_pos g1)
        have hcb : cyB (isqrt (discW r1 r2 r3)) (r1, r2, r3) = true := by rw [g3.dw, g3.sq]; exact cyB_iff.2 g2
        have hicf := Lib.hid fun w0 => isCyclicForm_yes (r1, r2, r3) w0 hir hcb
        obtain ⟨n, hn⟩ := ci_of g2 g3
        have hcof := Lib.hid fun w0 => cycleOf_yes u1 u2 u3 _ _ _ _ n w0 HR.out hn
        have hcln := Lib.hid fun w0 => cycleLength_yes u1 u2 u3 _ _ _ _ n w0 HR.out hn
        have hn1 : 1 ≤ n := by have := hn.lt; omega
        obtain ⟨R, hRR⟩ : ∃ R, isqrt (discW u1 u2 u3) = R := ⟨_, rfl⟩
        simp only [hRR] at hcof
        simp only at hsub hicf
        clear g1 g2 g3 g4 g5 g6 hfu hir hcb hn hRR HR
        go_wp2_with fail
        try rw [ey19]
        refine (hsub.out _).mono ?_
        rintro e20 v20 ⟨rfl, hB20⟩
        clear cu lu cr lr ck lk cs ls ct lt
        replace Ku := Lib.hid (Ku.out.below hB20)
        replace Kr := Lib.hid (Kr.out.below hB20)
        replace Kk := Lib.hid (Kk.out.below hB20)
        replace Ks := Lib.hid (Ks.out.below hB20)
        replace Kt := Lib.hid (Kt.out.below hB20)
        have hW20 := Lib.hid (hY19.out.trans (hB20.mono hY19.out.size))
        clear hB20 hY19
        obtain ⟨y20, ey20, Ku', Kr', Kk', Ks', Kt', Kh', hY20⟩ : ∃ y20, v20.alloc (.cells #[.int .i64 r1, .int .i64 r2, .int .i64 r3] 36) = y20 ∧ Hid (Blk (v17.heap.size) 36 #[.int .i64 u1, .int .i64 u2, .int .i64 u3] y20) ∧ Hid (Blk (v18.heap.size) 36 #[.int .i64 r1, .int .i64 r2, .int .i64 r3] y20) ∧ Hid (Blk (v18.heap.size + 1) 40 #[.int .i64 k1, .int .i64 k2, .int .i64 k3, .int .i64 k4] y20) ∧ Hid (Blk (v19.heap.size) 36 #[.int .i64 r1, .int .i64 r2, .int .i64 r3] y20) ∧ Hid (Blk (v19.heap.size + 1) 40 #[.int .i64 k1, .int .i64 k2, .int .i64 k3, .int .i64 k4] y20) ∧ Hid (Blk (v20.heap.size) 36 #[.int .i64 r1, .int .i64 r2, .int .i64 r3] y20) ∧ Hid (Below w.heap.size w y20) := by
          exact ⟨_, rfl, Lib.hid ((Ku.out.alloc _)), Lib.hid ((Kr.out.alloc _)), Lib.hid ((Kk.out.alloc _)), Lib.hid ((Ks.out.alloc _)), Lib.hid ((Kt.out.alloc _)), Lib.hid (by have h := Blk.new v20 36 #[.int .i64 r1, .int .i64 r2, .int .i64 r3]; simpa using h), Lib.hid (hW20.out.alloc hW20.out.size _)⟩
        clear Ku Kr Kk Ks Kt hW20
        have Ku := Ku'
        have Kr := Kr'
        have Kk := Kk'
        have Ks := Ks'
        have Kt := Kt'
        have Kh := Kh'
        clear Ku' Kr' Kk' Ks' Kt' Kh'
        have cu := Ku.out.cell
        have lu := Ku.out.lt
        have cr := Kr.out.cell
        have lr := Kr.out.lt
        have ck := Kk.out.cell
        have lk := Kk.out.lt
        have cs := Ks.out.cell
        have ls := Ks.out.lt
        have ct := Kt.out.cell
        have lt := Kt.out.lt
        have ch := Kh.out.cell
        have lh := Kh.out.lt
        go_wp2_with fail
        try rw [ey20]
        try clear ey20
        refine (hicf.out _).mono ?_
        rintro e21 v21 ⟨rfl, hB21⟩
        clear cu lu cr lr ck lk cs ls ct lt ch lh
        replace Ku := Lib.hid (Ku.out.below hB21)
        replace Kr := Lib.hid (Kr.out.below hB21)
        replace Kk := Lib.hid (Kk.out.below hB21)
        replace Ks := Lib.hid (Ks.out.below hB21)
        replace Kt := Lib.hid (Kt.out.below hB21)
        replace Kh := Lib.hid (Kh.out.below hB21)
        have hW21 := Lib.hid (hY20.out.trans (hB21.mono hY20.out.size))
        clear hB21 hY20
        have cu := Ku.out.cell
        have lu := Ku.out.lt
        have cr := Kr.out.cell
        have lr := Kr.out.lt
        have ck := Kk.out.cell
        have lk := Kk.out.lt
        have cs := Ks.out.cell
        have ls := Ks.out.lt
        have ct := Kt.out.cell
        have lt := Kt.out.lt
        have ch := Kh.out.cell
        have lh := Kh.out.lt
        go_wp2_with fail
        refine (hcof.out _).mono ?_
        rintro e22 v22 ⟨⟨vl, rfl, hrw⟩, hB22⟩
        clear cu lu cr lr ck lk cs ls ct lt ch lh
        replace Ku := Lib.hid (Ku.out.below hB22)
        replace Kr := Lib.hid (Kr.out.below hB22)
        replace Kk := Lib.hid (Kk.out.below hB22)
        replace Ks := Lib.hid (Ks.out.below hB22)
        replace Kt := Lib.hid (Kt.out.below hB22)
        replace Kh := Lib.hid (Kh.out.below hB22)
        have hW22 := Lib.hid (hW21.out.trans (hB22.mono hW21.out.size))
        clear hB22 hW21
        obtain ⟨la, lc, hvl, _, _, hse⟩ := hrw.sees c3_len
        rw [cyc_length] at hvl
        subst hvl
        obtain ⟨gl, rfl, hgl⟩ : ∃ gl, la = some ⟨gl, 0, none⟩ ∧ Hid (gl < v22.heap.size ∧ v22.cell? ⟨gl, 0, none⟩ = some (.int .i64 r1) ∧ v22.cell? ⟨gl, 1, none⟩ = some (.int .i64 r2) ∧ v22.cell? ⟨gl, 2, none⟩ = some (.int .i64 r3)) := by
          rcases hse with h0 | ⟨gl, h1, _, h3, h4, _⟩
          · rw [cyc_length] at h0; omega
          · have hx := h4 0 (r1, r2, r3) (by rw [cyc_get R n _ 0 (by omega)]; rfl)
            exact ⟨gl, h1, Lib.hid ⟨h3, by simpa [c3] using hx 0 (by omega), by simpa [c3] using hx 1 (by omega), by simpa [c3] using hx 2 (by omega)⟩⟩
        clear hrw hse
        have cu := Ku.out.cell
        have lu := Ku.out.lt
        have cr := Kr.out.cell
        have lr := Kr.out.lt
        have ck := Kk.out.cell
        have lk := Kk.out.lt
        have cs := Ks.out.cell
        have ls := Ks.out.lt
        have ct := Kt.out.cell
        have lt := Kt.out.lt
        have ch := Kh.out.cell
        have lh := Kh.out.lt
        go_wp2_with fail
        refine (hcln.out _).mono ?_
        rintro e23 v23 ⟨rfl, hB23⟩
        clear cu lu cr lr ck lk cs ls ct lt ch lh
        replace Ku := Lib.hid (Ku.out.below hB23)
        replace Kr := Lib.hid (Kr.out.below hB23)
        replace Kk := Lib.hid (Kk.out.below hB23)
        replace Ks := Lib.hid (Ks.out.below hB23)
        replace Kt := Lib.hid (Kt.out.below hB23)
        replace Kh := Lib.hid (Kh.out.below hB23)
        have hl2 : gl < v23.heap.size ∧ v23.cell? ⟨gl, 0, none⟩ = some (.int .i64 r1) ∧ v23.cell? ⟨gl, 1, none⟩ = some (.int .i64 r2) ∧ v23.cell? ⟨gl, 2, none⟩ = some (.int .i64 r3) := by
          obtain ⟨h0, h1, h2, h3⟩ := hgl.out
          have hz := hB23.size
          exact ⟨by omega, by rw [bC hB23 h0]; exact h1, by rw [bC hB23 h0]; exact h2, by rw [bC hB23 h0]; exact h3⟩
        have hW23 := Lib.hid (hW22.out.trans (hB23.mono hW22.out.size))
        clear hB23 hW22
        have cu := Ku.out.cell
        have lu := Ku.out.lt
        have cr := Kr.out.cell
        have lr := Kr.out.lt
        have ck := Kk.out.cell
        have lk := Kk.out.lt
        have cs := Ks.out.cell
        have ls := Ks.out.lt
        have ct := Kt.out.cell
        have lt := Kt.out.lt
        have ch := Kh.out.cell
        have lh := Kh.out.lt
        obtain ⟨lgl, q0, q1, q2⟩ := hl2
        have hn0 : 0 < n := hn1
        have hn0' : decide (0 < n) = true := decide_eq_true hn0
        clear hgl
        go_wp2_with fail
        refine wp_region_past (by kernel_rfl) (by kernel_rfl) ?_
        repeat (first | go_big_quiet_skip | (go_big_quiet_want; go_big_quiet_op; first | go_big_quiet_on | (apply Exists.intro; refine ⟨fun _ => ?_, ?_⟩; (focus (fail)); go_big_quiet_on)))
        refine wpQuiet_nil ?_
        intro w2 hw'
        have hB2 := past_below hw'
        clear hw'
        obtain ⟨hC2, hF2⟩ := bcell hB2
        have hS2 := hB2.size
        (try simp at hS2)
        (try have hS2_w0 : w.heap.size < w2.heap.size := by omega)
        (try have hS2_w1 : w.heap.size + 1 < w2.heap.size := by omega)
        (try have hS2_w2 : w.heap.size + 1 + 1 < w2.heap.size := by omega)
        (try have hS2_w3 : w.heap.size + 1 + 1 + 1 < w2.heap.size := by omega)
        (try have hS2_w4 : w.heap.size + 1 + 1 + 1 + 1 < w2.heap.size := by omega)
        (try have hS2_1 : w1.heap.size < w2.heap.size := by omega)
        (try have hS2_1' : w1.heap.size + 1 < w2.heap.size := by omega)
        have hZ := Lib.hid (hW23.out.trans (hB2.mono hW23.out.size))
        go_wp2_with fail
        go_ret
        refine ⟨rfl, ?_⟩
        exact hZ.out
    | false =>
      go_wp2_with fail
      clear Kf cf lf Kg cg lg Km cm lm Kn cn ln
      refine (drawReduce_any a1 len1 cap1 _ (HC1.out _ hW5.out) HS1).mono ?_
      rintro e24 v24 ⟨⟨⟨u1, u2, u3⟩, rfl⟩, hB24⟩
      have hW24 := Lib.hid (hW5.out.trans (hB24.mono hW5.out.size))
      clear hB24 hW5
      obtain ⟨y24, ey24, Ku', hY24⟩ : ∃ y24, v24.alloc (.cells #[.int .i64 u1, .int .i64 u2, .int .i64 u3] 36) = y24 ∧ Hid (Blk (v24.heap.size) 36 #[.int .i64 u1, .int .i64 u2, .int .i64 u3] y24) ∧ Hid (Below w.heap.size w y24) := by
        exact ⟨_, rfl, Lib.hid (by have h := Blk.new v24 36 #[.int .i64 u1, .int .i64 u2, .int .i64 u3]; simpa using h), Lib.hid (hW24.out.alloc hW24.out.size _)⟩
      clear hW24
      have Ku := Ku'
      clear Ku'
      have cu := Ku.out.cell
      have lu := Ku.out.lt
      go_wp2_with fail
      try rw [ey24]
      try clear ey24
      refine (implReduce_any u1 u2 u3 _).mono ?_
      rintro e25 v25 ⟨⟨⟨r1, r2, r3⟩, ⟨k1, k2, k3, k4⟩, three, rfl, hR⟩, hB25⟩
      clear cu lu
      replace Ku := Lib.hid (Ku.out.below hB25)
      have hW25 := Lib.hid (hY24.out.trans (hB25.mono hY24.out.size))
      clear hB25 hY24
      have HR := Lib.hid hR
      clear hR
      obtain ⟨y25, ey25, Ku', Kr', Kk', hY25⟩ : ∃ y25, (v25.alloc (.cells #[.int .i64 r1, .int .i64 r2, .int .i64 r3] 36)).alloc (.cells #[.int .i64 k1, .int .i64 k2, .int .i64 k3, .int .i64 k4] 40) = y25 ∧ Hid (Blk (v24.heap.size) 36 #[.int .i64 u1, .int .i64 u2, .int .i64 u3] y25) ∧ Hid (Blk (v25.heap.size) 36 #[.int .i64 r1, .int .i64 r2, .int .i64 r3] y25) ∧ Hid (Blk (v25.heap.size + 1) 40 #[.int .i64 k1, .int .i64 k2, .int .i64 k3, .int .i64 k4] y25) ∧ Hid (Below w.heap.size w y25) := by
        exact ⟨_, rfl, Lib.hid (((Ku.out.alloc _).alloc _)), Lib.hid (by have h := (Blk.new v25 36 #[.int .i64 r1, .int .i64 r2, .int .i64 r3]).alloc (.cells #[.int .i64 k1, .int .i64 k2, .int .i64 k3, .int .i64 k4] 40); simpa using h), Lib.hid (by have h := Blk.new (v25.alloc (.cells #[.int .i64 r1, .int .i64 r2, .int .i64 r3] 36)) 40 #[.int .i64 k1, .int .i64 k2, .int .i64 k3, .int .i64 k4]; simpa using h), Lib.hid ((hW25.out.alloc hW25.out.size _).alloc (by have := hW25.out.size; simp; omega) _)⟩
      clear Ku hW25
      have Ku := Ku'
      have Kr := Kr'
      have Kk := Kk'
      clear Ku' Kr' Kk'
      have cu := Ku.out.cell
      have lu := Ku.out.lt
      have cr := Kr.out.cell
      have lr := Kr.out.lt
      have ck := Kk.out.cell
      have lk := Kk.out.lt
      go_wp2_with fail
      try rw [ey25]
      try clear ey25
      refine (specReduce_any u1 u2 u3 _).mono ?_
      rintro e26 v26 ⟨⟨⟨r1', r2', r3'⟩, ⟨k1', k2', k3', k4'⟩, three', rfl, hR'⟩, hB26⟩
      clear cu lu cr lr ck lk
      replace Ku := Lib.hid (Ku.out.below hB26)
      replace Kr := Lib.hid (Kr.out.below hB26)
      replace Kk := Lib.hid (Kk.out.below hB26)
      have hW26 := Lib.hid (hY25.out.trans (hB26.mono hY25.out.size))
      clear hB26 hY25
      obtain ⟨he1, he2, he3⟩ := HR.out.same hR'
      clear hR'
      simp only [Prod.mk.injEq] at he1 he2
      obtain ⟨rfl, rfl, rfl⟩ := he1
      obtain ⟨rfl, rfl, rfl, rfl⟩ := he2
      subst he3
      obtain ⟨y26, ey26, Ku', Kr', Kk', Ks', Kt', hY26⟩ : ∃ y26, (v26.alloc (.cells #[.int .i64 r1, .int .i64 r2, .int .i64 r3] 36)).alloc (.cells #[.int .i64 k1, .int .i64 k2, .int .i64 k3, .int .i64 k4] 40) = y26 ∧ Hid (Blk (v24.heap.size) 36 #[.int .i64 u1, .int .i64 u2, .int .i64 u3] y26) ∧ Hid (Blk (v25.heap.size) 36 #[.int .i64 r1, .int .i64 r2, .int .i64 r3] y26) ∧ Hid (Blk (v25.heap.size + 1) 40 #[.int .i64 k1, .int .i64 k2, .int .i64 k3, .int .i64 k4] y26) ∧ Hid (Blk (v26.heap.size) 36 #[.int .i64 r1, .int .i64 r2, .int .i64 r3] y26) ∧ Hid (Blk (v26.heap.size + 1) 40 #[.int .i64 k1, .int .i64 k2, .int .i64 k3, .int .i64 k4] y26) ∧ Hid (Below w.heap.size w y26) := by
        exact ⟨_, rfl, Lib.hid (((Ku.out.alloc _).alloc _)), Lib.hid (((Kr.out.alloc _).alloc _)), Lib.hid (((Kk.out.alloc _).alloc _)), Lib.hid (by have h := (Blk.new v26 36 #[.int .i64 r1, .int .i64 r2, .int .i64 r3]).alloc (.cells #[.int .i64 k1, .int .i64 k2, .int .i64 k3, .int .i64 k4] 40); simpa using h), Lib.hid (by have h := Blk.new (v26.alloc (.cells #[.int .i64 r1, .int .i64 r2, .int .i64 r3] 36)) 40 #[.int .i64 k1, .int .i64 k2, .int .i64 k3, .int .i64 k4]; simpa using h), Lib.hid ((hW26.out.alloc hW26.out.size _).alloc (by have := hW26.out.size; simp; omega) _)⟩
      clear Ku Kr Kk hW26
      have Ku := Ku'
      have Kr := Kr'
      have Kk := Kk'
      have Ks := Ks'
      have Kt := Kt'
      clear Ku' Kr' Kk' Ks' Kt'
      have cu := Ku.out.cell
      have lu := Ku.out.lt
      have cr := Kr.out.cell
      have lr := Kr.out.lt
      have ck := Kk.out.cell
      have lk := Kk.out.lt
      have cs := Ks.out.cell
      have ls := Ks.out.lt
      have ct := Kt.out.cell
      have lt := Kt.out.lt
      cases three with
      | false =>
        go_wp2_with fail
        go_ret
        refine ⟨rfl, ?_⟩
        have hX := hY26.out
        repeat (first | with_reducible exact Below.refl _ _ | with_reducible assumption | ((with_reducible refine blA ?_ ?_); (focus (first | omega | (simp <;> omega)))) | (with_reducible refine blD ?_) | (with_reducible refine blN ?_) | ((with_reducible refine blS ?_ ?_); (focus (first | omega | (simp <;> omega)))) | ((with_reducible refine blT (by assumption) ?_ ?_); (focus (first | omega | (simp <;> omega)))))
      | true =>
        obtain ⟨g1, g2, g3, g4, g5, g6⟩ := HR.out.good rfl
        have hfu : formB u1 u2 u3 = true := by have h := g1; simp only [indB, Bool.and_eq_true] at h; exact h.1
        have hsub := Lib.hid fun w0 => substitute_yes (u1, u2, u3) (r1, r2, r3) (k1, k2, k3, k4) w0 hfu g3.form g4 g6
        have hir : indB r1 r2 r3 = true := g3.ind (ind_pos g1)
        have hcb : cyB (isqrt (discW r1 r2 r3)) (r1, r2, r3) = true := by rw [g3.dw, g3.sq]; exact cyB_iff.2 g2
        have hicf := Lib.hid fun w0 => isCyclicForm_yes (r1, r2, r3) w0 hir hcb
        obtain ⟨n, hn⟩ := ci_of g2 g3
        have hcof := Lib.hid fun w0 => cycleOf_yes u1 u2 u3 _ _ _ _ n w0 HR.out hn
        have hcln := Lib.hid fun w0 => cycleLength_yes u1 u2 u3 _ _ _ _ n w0 HR.out hn
        have hn1 : 1 ≤ n := by have := hn.lt; omega
        obtain ⟨R, hRR⟩ : ∃ R, isqrt (discW u1 u2 u3) = R := ⟨_, rfl⟩
        simp only [hRR] at hcof
        simp only at hsub hicf
        clear g1 g2 g3 g4 g5 g6 hfu hir hcb hn hRR HR
        go_wp2_with fail
        try rw [ey26]
        refine (hsub.out _).mono ?_
        rintro e27 v27 ⟨rfl, hB27⟩
        clear cu lu cr lr ck lk cs ls ct lt
        replace Ku := Lib.hid (Ku.out.below hB27)
        replace Kr := Lib.hid (Kr.out.below hB27)
        replace Kk := Lib.hid (Kk.out.below hB27)
        replace Ks := Lib.hid (Ks.out.below hB27)
        replace Kt := Lib.hid (Kt.out.below hB27)
        have hW27 := Lib.hid (hY26.out.trans (hB27.mono hY26.out.size))
        clear hB27 hY26
        obtain ⟨y27, ey27, Ku', Kr', Kk', Ks', Kt', Kh', hY27⟩ : ∃ y27, v27.alloc (.cells #[.int .i64 r1, .int .i64 r2, .int .i64 r3] 36) = y27 ∧ Hid (Blk (v24.heap.size) 36 #[.int .i64 u1, .int .i64 u2, .int .i64 u3] y27) ∧ Hid (Blk (v25.heap.size) 36 #[.int .i64 r1, .int .i64 r2, .int .i64 r3] y27) ∧ Hid (Blk (v25.heap.size + 1) 40 #[.int .i64 k1, .int .i64 k2, .int .i64 k3, .int .i64 k4] y27) ∧ Hid (Blk (v26.heap.size) 36 #[.int .i64 r1, .int .i64 r2, .int .i64 r3] y27) ∧ Hid (Blk (v26.heap.size + 1) 40 #[.int .i64 k1, .int .i64 k2, .int .i64 k3, .int .i64 k4] y27) ∧ Hid (Blk (v27.heap.size) 36 #[.int .i64 r1, .int .i64 r2, .int .i64 r3] y27) ∧ Hid (Below w.heap.size w y27) := by
          exact ⟨_, rfl, Lib.hid ((Ku.out.alloc _)), Lib.hid ((Kr.out.alloc _)), Lib.hid ((Kk.out.alloc _)), Lib.hid ((Ks.out.alloc _)), Lib.hid ((Kt.out.alloc _)), Lib.hid (by have h := Blk.new v27 36 #[.int .i64 r1, .int .i64 r2, .int .i64 r3]; simpa using h), Lib.hid (hW27.out.alloc hW27.out.size _)⟩
        clear Ku Kr Kk Ks Kt hW27
        have Ku := Ku'
        have Kr := Kr'
        have Kk := Kk'
        have Ks := Ks'
        have Kt := Kt'
        have Kh := Kh'
        clear Ku' Kr' Kk' Ks' Kt' Kh'
        have cu := Ku.out.cell
        have lu := Ku.out.lt
        have cr := Kr.out.cell
        have lr := Kr.out.lt
        have ck := Kk.out.cell
        have lk := Kk.out.lt
        have cs := Ks.out.cell
        have ls := Ks.out.lt
        have ct := Kt.out.cell
        have lt := Kt.out.lt
        have ch := Kh.out.cell
        have lh := Kh.out.lt
        go_wp2_with fail
        try rw [ey27]
        try clear ey27
        refine (hicf.out _).mono ?_
        rintro e28 v28 ⟨rfl, hB28⟩
        clear cu lu cr lr ck lk cs ls ct lt ch lh
        replace Ku := Lib.hid (Ku.out.below hB28)
        replace Kr := Lib.hid (Kr.out.below hB28)
        replace Kk := Lib.hid (Kk.out.below hB28)
        replace Ks := Lib.hid (Ks.out.below hB28)
        replace Kt := Lib.hid (Kt.out.below hB28)
        replace Kh := Lib.hid (Kh.out.below hB28)
        have hW28 := Lib.hid (hY27.out.trans (hB28.mono hY27.out.size))
        clear hB28 hY27
        have cu := Ku.out.cell
        have lu := Ku.out.lt
        have cr := Kr.out.cell
        have lr := Kr.out.lt
        have ck := Kk.out.cell
        have lk := Kk.out.lt
        have cs := Ks.out.cell
        have ls := Ks.out.lt
        have ct := Kt.out.cell
        have lt := Kt.out.lt
        have ch := Kh.out.cell
        have lh := Kh.out.lt
        go_wp2_with fail
        refine (hcof.out _).mono ?_
        rintro e29 v29 ⟨⟨vl, rfl, hrw⟩, hB29⟩
        clear cu lu cr lr ck lk cs ls ct lt ch lh
        replace Ku := Lib.hid (Ku.out.below hB29)
        replace Kr := Lib.hid (Kr.out.below hB29)
        replace Kk := Lib.hid (Kk.out.below hB29)
        replace Ks := Lib.hid (Ks.out.below hB29)
        replace Kt := Lib.hid (Kt.out.below hB29)
        replace Kh := Lib.hid (Kh.out.below hB29)
        have hW29 := Lib.hid (hW28.out.trans (hB29.mono hW28.out.size))
        clear hB29 hW28
        obtain ⟨la, lc, hvl, _, _, hse⟩ := hrw.sees c3_len
        rw [cyc_length] at hvl
        subst hvl
        obtain ⟨gl, rfl, hgl⟩ : ∃ gl, la = some ⟨gl, 0, none⟩ ∧ Hid (gl < v29.heap.size ∧ v29.cell? ⟨gl, 0, none⟩ = some (.int .i64 r1) ∧ v29.cell? ⟨gl, 1, none⟩ = some (.int .i64 r2) ∧ v29.cell? ⟨gl, 2, none⟩ = some (.int .i64 r3)) := by
          rcases hse with h0 | ⟨gl, h1, _, h3, h4, _⟩
          · rw [cyc_length] at h0; omega
          · have hx := h4 0 (r1, r2, r3) (by rw [cyc_get R n _ 0 (by omega)]; rfl)
            exact ⟨gl, h1, Lib.hid ⟨h3, by simpa [c3] using hx 0 (by omega), by simpa [c3] using hx 1 (by omega), by simpa [c3] using hx 2 (by omega)⟩⟩
        clear hrw hse
        have cu := Ku.out.cell
        have lu := Ku.out.lt
        have cr := Kr.out.cell
        have lr := Kr.out.lt
        have ck := Kk.out.cell
        have lk := Kk.out.lt
        have cs := Ks.out.cell
        have ls := Ks.out.lt
        have ct := Kt.out.cell
        have lt := Kt.out.lt
        have ch := Kh.out.cell
        have lh := Kh.out.lt
        go_wp2_with fail
        refine (hcln.out _).mono ?_
        rintro e30 v30 ⟨rfl, hB30⟩
        clear cu lu cr lr ck lk cs ls ct lt ch lh
        replace Ku := Lib.hid (Ku.out.below hB30)
        replace Kr := Lib.hid (Kr.out.below hB30)
        replace Kk := Lib.hid (Kk.out.below hB30)
        replace Ks := Lib.hid (Ks.out.below hB30)
        replace Kt := Lib.hid (Kt.out.below hB30)
        replace Kh := Lib.hid (Kh.out.below hB30)
        have hl2 : gl < v30.heap.size ∧ v30.cell? ⟨gl, 0, none⟩ = some (.int .i64 r1) ∧ v30.cell? ⟨gl, 1, none⟩ = some (.int .i64 r2) ∧ v30.cell? ⟨gl, 2, none⟩ = some (.int .i64 r3) := by
          obtain ⟨h0, h1, h2, h3⟩ := hgl.out
          have hz := hB30.size
          exact ⟨by omega, by rw [bC hB30 h0]; exact h1, by rw [bC hB30 h0]; exact h2, by rw [bC hB30 h0]; exact h3⟩
        have hW30 := Lib.hid (hW29.out.trans (hB30.mono hW29.out.size))
        clear hB30 hW29
        have cu := Ku.out.cell
        have lu := Ku.out.lt
        have cr := Kr.out.cell
        have lr := Kr.out.lt
        have ck := Kk.out.cell
        have lk := Kk.out.lt
        have cs := Ks.out.cell
        have ls := Ks.out.lt
        have ct := Kt.out.cell
        have lt := Kt.out.lt
        have ch := Kh.out.cell
        have lh := Kh.out.lt
        obtain ⟨lgl, q0, q1, q2⟩ := hl2
        have hn0 : 0 < n := hn1
        have hn0' : decide (0 < n) = true := decide_eq_true hn0
        clear hgl
        go_wp2_with fail
        refine wp_region_past (by kernel_rfl) (by kernel_rfl) ?_
        repeat (first | go_big_quiet_skip | (go_big_quiet_want; go_big_quiet_op; first | go_big_quiet_on | (apply Exists.intro; refine ⟨fun _ => ?_, ?_⟩; (focus (fail)); go_big_quiet_on)))
        refine wpQuiet_nil ?_
        intro w3 hw'
        have hB3 := past_below hw'
        clear hw'
        obtain ⟨hC3, hF3⟩ := bcell hB3
        have hS3 := hB3.size
        (try simp at hS3)
        (try have hS3_w0 : w.heap.size < w3.heap.size := by omega)
        (try have hS3_w1 : w.heap.size + 1 < w3.heap.size := by omega)
        (try have hS3_w2 : w.heap.size + 1 + 1 < w3.heap.size := by omega)
        (try have hS3_w3 : w.heap.size + 1 + 1 + 1 < w3.heap.size := by omega)
        (try have hS3_w4 : w.heap.size + 1 + 1 + 1 + 1 < w3.heap.size := by omega)
        (try have hS3_1 : w1.heap.size < w3.heap.size := by omega)
        (try have hS3_2 : w2.heap.size < w3.heap.size := by omega)
        (try have hS3_1' : w1.heap.size + 1 < w3.heap.size := by omega)
        (try have hS3_2' : w2.heap.size + 1 < w3.heap.size := by omega)
        have hZ := Lib.hid (hW30.out.trans (hB3.mono hW30.out.size))
        go_wp2_with fail
        go_ret
        refine ⟨rfl, ?_⟩
        exact hZ.out
end Go.Proofs.Ytemnkfigjpphgaa
