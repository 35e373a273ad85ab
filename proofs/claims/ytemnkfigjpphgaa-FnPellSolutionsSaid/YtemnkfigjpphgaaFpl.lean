/-
  The law FnPellSolutions. (Printed by mkfpl.py.)
-/
import Derived.Test.YtemnkfigjpphgaaPdp
import Derived.Test.YtemnkfigjpphgaaPlf
namespace Go.Proofs.Ytemnkfigjpphgaa
open Go.RowKit
attribute [local simp, local go_sem] past_cell past_frozen past_tape
set_option maxRecDepth 100000 in
set_option maxHeartbeats 40000000 in
theorem law_pellSolutions (a0 : Option Addr) (len0 cap0 : Nat) (a1 : Option Addr) (len1 cap1 : Nat) (w : World) (hc0 : CodeOk w.heap.size w a0 len0) (hc1 : CodeOk w.heap.size w a1 len1) (hl0 : len0 ≤ 9223372036854775807) (hl1 : len1 ≤ 9223372036854775807) (hq1 : len1 ≤ cap1) :
    Calls Try.prog 3 #[.slice a0 len0 cap0, .slice a1 len1 cap1] w fun en w' => en = .returned (.bool true) ∧ Below w.heap.size w w' := by
  by_cases hbig : bigB len0 len1 = true
  · go_enter Try.func3, Try.ntmps3
    go_wp2_with fail
    refine (big_any _ _ _ _ _ _ _ hl0 hl1).mono ?_
    rintro e0 w1 ⟨rfl, hB⟩
    go_wp2_with fail
    go_ret
    refine ⟨rfl, ?_⟩
    repeat (first | with_reducible exact Below.refl _ _ | with_reducible assumption | ((with_reducible refine blA ?_ ?_); (focus (first | omega | (simp <;> omega)))) | (with_reducible refine blD ?_) | (with_reducible refine blN ?_) | ((with_reducible refine blS ?_ ?_); (focus (first | omega | (simp <;> omega)))) | ((with_reducible refine blT (by assumption) ?_ ?_); (focus (first | omega | (simp <;> omega)))))
  have hbig' : bigB len0 len1 = false := by simpa using hbig
  have hsm : (len0 : Int) ≤ 1048576 ∧ (len1 : Int) ≤ 1048576 := by
    simp only [bigB, Bool.or_eq_false_iff, decide_eq_false_iff_not] at hbig'
    omega
  have HS0 : len0 ≤ 140737488355328 := by omega
  have HS1 : len1 ≤ 140737488355328 := by omega
  go_enter Try.func3, Try.ntmps3
  go_wp2_with fail
  refine (big_any _ _ _ _ _ _ _ hl0 hl1).mono ?_
  rintro e0 va ⟨rfl, hBa⟩
  have HC1 := Lib.hid (fun (x : World) (h : Below w.heap.size w x) => hc1.up h.size h)
  have hc0' := hc0.up hBa.size hBa
  have hWa := Lib.hid hBa
  have HS := Lib.hid HS1
  have HQ := Lib.hid hq1
  clear hBa hsm hl0 hl1 hc0 hc1 HS1 hq1
  go_wp2_with fail
  clear hbig hbig'
  refine (drawPellPower_any a0 len0 cap0 _ hc0' HS0).mono ?_
  rintro e1 v1 ⟨⟨d, k, rfl, hd, hk⟩, hB1⟩
  have hW1 := Lib.hid (hWa.out.trans (hB1.mono hWa.out.size))
  clear hB1 hWa
  obtain ⟨x1, x2, ok, hPP⟩ := PP.exist d k
  have hci := Lib.hid fun w0 => implPellPower_any d k x1 x2 ok w0 hd hPP
  have hcs := Lib.hid fun w0 => specPellPower_any d k x1 x2 ok w0 hd hPP
  have HPP := Lib.hid hPP
  clear hPP hc0' HS0
  go_wp2_with fail
  refine (hci.out _).mono ?_
  rintro e2 v2 ⟨rfl, hB2⟩
  have hW2 := Lib.hid (hW1.out.trans (hB2.mono hW1.out.size))
  clear hB2 hW1
  obtain ⟨y2, ey2, Kx', hY2⟩ : ∃ y2, v2.alloc (.cells #[.int .i64 x1, .int .i64 x2] 27) = y2 ∧ Hid (Blk (v2.heap.size) 27 #[.int .i64 x1, .int .i64 x2] y2) ∧ Hid (Below w.heap.size w y2) := by
    exact ⟨_, rfl, Lib.hid (by have h := Blk.new v2 27 #[.int .i64 x1, .int .i64 x2]; simpa using h), Lib.hid (hW2.out.alloc hW2.out.size _)⟩
  clear hW2
  have Kx := Kx'
  clear Kx'
  have cx := Kx.out.cell
  have lx := Kx.out.lt
  go_wp2_with fail
  try rw [ey2]
  try clear ey2
  refine (hcs.out _).mono ?_
  rintro e3 v3 ⟨rfl, hB3⟩
  clear cx lx
  replace Kx := Lib.hid (Kx.out.below hB3)
  have hW3 := Lib.hid (hY2.out.trans (hB3.mono hY2.out.size))
  clear hB3 hY2
  obtain ⟨y3, ey3, Kx', Ky', hY3⟩ : ∃ y3, v3.alloc (.cells #[.int .i64 x1, .int .i64 x2] 27) = y3 ∧ Hid (Blk (v2.heap.size) 27 #[.int .i64 x1, .int .i64 x2] y3) ∧ Hid (Blk (v3.heap.size) 27 #[.int .i64 x1, .int .i64 x2] y3) ∧ Hid (Below w.heap.size w y3) := by
    exact ⟨_, rfl, Lib.hid ((Kx.out.alloc _)), Lib.hid (by have h := Blk.new v3 27 #[.int .i64 x1, .int .i64 x2]; simpa using h), Lib.hid (hW3.out.alloc hW3.out.size _)⟩
  clear Kx hW3
  have Kx := Kx'
  have Ky := Ky'
  clear Kx' Ky'
  have cx := Kx.out.cell
  have lx := Kx.out.lt
  have cy := Ky.out.cell
  have ly := Ky.out.lt
  clear hci hcs
  go_upto_if 63 with fail
  try rw [ey3]
  try clear ey3
  go_cut [] from 5 (fun wx => Hid (Below w.heap.size w wx))
  case first =>
    cases ok with
    | false =>
      go_wp2_with fail
      go_meet
      case rel => exact hY3
    | true =>
      obtain ⟨T, U, hf, hp, hxs, hTs, hxn, k0, k1, hnext⟩ := plain1 HPP.out
      obtain ⟨n1, n2, two, hPP2⟩ := PP.exist d (k + 1)
      obtain ⟨z1, z2, four, hPM⟩ := PM.exist d
      obtain ⟨xa, xb, xc, xd⟩ := norm_W hp hxs
      have hI1 : I64 x1 := by obtain ⟨⟨h1, h2⟩, _⟩ := smallB_bd hxs; exact ⟨by omega, by omega⟩
      have hIT : I64 T := by obtain ⟨⟨h1, h2⟩, _⟩ := smallB_bd hTs; exact ⟨by omega, by omega⟩
      have hkw : wrap64 (k + 1) = k + 1 := by unfold wrap64; omega
      have hcf := Lib.hid fun w0 => implPellFour_any d T U true w0 hd hf
      have hcn := Lib.hid fun w0 => implPellPower_any d (k + 1) n1 n2 two w0 hd hPP2
      have hcp := Lib.hid fun w0 => implPellProduct_any d x1 x2 T U w0 hd hI1 hIT
      have hcm := Lib.hid fun w0 => implPellMinusFour_any d z1 z2 four w0 hd hPM
      have hcm' := Lib.hid fun w0 => specPellMinusFour_any d z1 z2 four w0 hd hPM
      obtain ⟨three, hthree⟩ : ∃ b, ppB d x1 x2 T U = b := ⟨_, rfl⟩
      obtain ⟨p1, hp1⟩ : ∃ b, ppz (ppB d x1 x2 T U) (pT d x1 x2 T U) = b := ⟨_, rfl⟩
      obtain ⟨p2, hp2⟩ : ∃ b, ppz (ppB d x1 x2 T U) (pU x1 x2 T U) = b := ⟨_, rfl⟩
      rw [hp1, hp2, hthree] at hcp
      have HN : Hid (two = true → three = true ∧ p1 = n1 ∧ p2 = n2) := Lib.hid fun h => by
        subst h
        obtain ⟨h1, h2, h3⟩ := hnext n1 n2 hPP2
        rw [← hthree, ← hp1, ← hp2, h1, ← h2, ← h3]
        exact ⟨rfl, rfl, rfl⟩
      rw [hthree] at hp1 hp2
      have HM : Hid (four = true → ppB d z1 z2 z1 z2 = true ∧ pT d z1 z2 z1 z2 = T ∧ pU z1 z2 z1 z2 = U ∧ z1 * z1 - d * z2 * z2 = -4 ∧ smallB z1 z2 = true) := Lib.hid fun h => by
        subst h
        exact plain2 hf hPM
      have HDP := Lib.hid hp
      have HDD := Lib.hid hd
      clear hf hp hxs hTs hPP2 hPM hnext hI1 hIT hthree hp1 hp2 k0 k1 HPP
      go_wp2_with fail
      refine (hcf.out _).mono ?_
      rintro e4 v4 ⟨rfl, hB4⟩
      clear cx lx cy ly
      replace Kx := Lib.hid (Kx.out.below hB4)
      replace Ky := Lib.hid (Ky.out.below hB4)
      have hW4 := Lib.hid (hY3.out.trans (hB4.mono hY3.out.size))
      clear hB4 hY3
      obtain ⟨y4, ey4, Kx', Ky', Kf', hY4⟩ : ∃ y4, v4.alloc (.cells #[.int .i64 T, .int .i64 U] 27) = y4 ∧ Hid (Blk (v2.heap.size) 27 #[.int .i64 x1, .int .i64 x2] y4) ∧ Hid (Blk (v3.heap.size) 27 #[.int .i64 x1, .int .i64 x2] y4) ∧ Hid (Blk (v4.heap.size) 27 #[.int .i64 T, .int .i64 U] y4) ∧ Hid (Below w.heap.size w y4) := by
        exact ⟨_, rfl, Lib.hid ((Kx.out.alloc _)), Lib.hid ((Ky.out.alloc _)), Lib.hid (by have h := Blk.new v4 27 #[.int .i64 T, .int .i64 U]; simpa using h), Lib.hid (hW4.out.alloc hW4.out.size _)⟩
      clear Kx Ky hW4
      have Kx := Kx'
      have Ky := Ky'
      have Kf := Kf'
      clear Kx' Ky' Kf'
      have cx := Kx.out.cell
      have lx := Kx.out.lt
      have cy := Ky.out.cell
      have ly := Ky.out.lt
      have cf := Kf.out.cell
      have lf := Kf.out.lt
      go_wp2_with fail
      try rw [ey4]
      try clear ey4
      refine (hcn.out _).mono ?_
      rintro e5 v5 ⟨rfl, hB5⟩
      clear cx lx cy ly cf lf
      replace Kx := Lib.hid (Kx.out.below hB5)
      replace Ky := Lib.hid (Ky.out.below hB5)
      replace Kf := Lib.hid (Kf.out.below hB5)
      have hW5 := Lib.hid (hY4.out.trans (hB5.mono hY4.out.size))
      clear hB5 hY4
      obtain ⟨y5, ey5, Kx', Ky', Kf', Kn', hY5⟩ : ∃ y5, v5.alloc (.cells #[.int .i64 n1, .int .i64 n2] 27) = y5 ∧ Hid (Blk (v2.heap.size) 27 #[.int .i64 x1, .int .i64 x2] y5) ∧ Hid (Blk (v3.heap.size) 27 #[.int .i64 x1, .int .i64 x2] y5) ∧ Hid (Blk (v4.heap.size) 27 #[.int .i64 T, .int .i64 U] y5) ∧ Hid (Blk (v5.heap.size) 27 #[.int .i64 n1, .int .i64 n2] y5) ∧ Hid (Below w.heap.size w y5) := by
        exact ⟨_, rfl, Lib.hid ((Kx.out.alloc _)), Lib.hid ((Ky.out.alloc _)), Lib.hid ((Kf.out.alloc _)), Lib.hid (by have h := Blk.new v5 27 #[.int .i64 n1, .int .i64 n2]; simpa using h), Lib.hid (hW5.out.alloc hW5.out.size _)⟩
      clear Kx Ky Kf hW5
      have Kx := Kx'
      have Ky := Ky'
      have Kf := Kf'
      have Kn := Kn'
      clear Kx' Ky' Kf' Kn'
      have cx := Kx.out.cell
      have lx := Kx.out.lt
      have cy := Ky.out.cell
      have ly := Ky.out.lt
      have cf := Kf.out.cell
      have lf := Kf.out.lt
      have cn := Kn.out.cell
      have ln := Kn.out.lt
      go_wp2_with fail
      try rw [ey5]
      try clear ey5
      refine (hcp.out _).mono ?_
      rintro e6 v6 ⟨rfl, hB6⟩
      clear cx lx cy ly cf lf cn ln
      replace Kx := Lib.hid (Kx.out.below hB6)
      replace Ky := Lib.hid (Ky.out.below hB6)
      replace Kf := Lib.hid (Kf.out.below hB6)
      replace Kn := Lib.hid (Kn.out.below hB6)
      have hW6 := Lib.hid (hY5.out.trans (hB6.mono hY5.out.size))
      clear hB6 hY5
      obtain ⟨y6, ey6, Kx', Ky', Kf', Kn', Kp', hY6⟩ : ∃ y6, v6.alloc (.cells #[.int .i64 p1, .int .i64 p2] 27) = y6 ∧ Hid (Blk (v2.heap.size) 27 #[.int .i64 x1, .int .i64 x2] y6) ∧ Hid (Blk (v3.heap.size) 27 #[.int .i64 x1, .int .i64 x2] y6) ∧ Hid (Blk (v4.heap.size) 27 #[.int .i64 T, .int .i64 U] y6) ∧ Hid (Blk (v5.heap.size) 27 #[.int .i64 n1, .int .i64 n2] y6) ∧ Hid (Blk (v6.heap.size) 27 #[.int .i64 p1, .int .i64 p2] y6) ∧ Hid (Below w.heap.size w y6) := by
        exact ⟨_, rfl, Lib.hid ((Kx.out.alloc _)), Lib.hid ((Ky.out.alloc _)), Lib.hid ((Kf.out.alloc _)), Lib.hid ((Kn.out.alloc _)), Lib.hid (by have h := Blk.new v6 27 #[.int .i64 p1, .int .i64 p2]; simpa using h), Lib.hid (hW6.out.alloc hW6.out.size _)⟩
      clear Kx Ky Kf Kn hW6
      have Kx := Kx'
      have Ky := Ky'
      have Kf := Kf'
      have Kn := Kn'
      have Kp := Kp'
      clear Kx' Ky' Kf' Kn' Kp'
      have cx := Kx.out.cell
      have lx := Kx.out.lt
      have cy := Ky.out.cell
      have ly := Ky.out.lt
      have cf := Kf.out.cell
      have lf := Kf.out.lt
      have cn := Kn.out.cell
      have ln := Kn.out.lt
      have cp := Kp.out.cell
      have lp := Kp.out.lt
      clear hcf hcn hcp
      have htw : two = false ∨ (two = true ∧ three = true ∧ p1 = n1 ∧ p2 = n2) := by
        cases two with
        | false => exact .inl rfl
        | true => obtain ⟨h1, h2, h3⟩ := HN.out rfl; exact .inr ⟨rfl, h1, h2, h3⟩
      clear HN
      rcases htw with rfl | ⟨rfl, rfl, rfl, rfl⟩
      · go_wp2_with fail
        try rw [ey6]
        try clear ey6
        clear Kx cx lx Ky cy ly Kn cn ln Kp cp lp
        clear xa xb xc xd hxn hkw
        refine (hcm.out _).mono ?_
        rintro e7 v7 ⟨rfl, hB7⟩
        clear cf lf
        replace Kf := Lib.hid (Kf.out.below hB7)
        have hW7 := Lib.hid (hY6.out.trans (hB7.mono hY6.out.size))
        clear hB7 hY6
        obtain ⟨y7, ey7, Kf', Kz', hY7⟩ : ∃ y7, v7.alloc (.cells #[.int .i64 z1, .int .i64 z2] 27) = y7 ∧ Hid (Blk (v4.heap.size) 27 #[.int .i64 T, .int .i64 U] y7) ∧ Hid (Blk (v7.heap.size) 27 #[.int .i64 z1, .int .i64 z2] y7) ∧ Hid (Below w.heap.size w y7) := by
          exact ⟨_, rfl, Lib.hid ((Kf.out.alloc _)), Lib.hid (by have h := Blk.new v7 27 #[.int .i64 z1, .int .i64 z2]; simpa using h), Lib.hid (hW7.out.alloc hW7.out.size _)⟩
        clear Kf hW7
        have Kf := Kf'
        have Kz := Kz'
        clear Kf' Kz'
        have cf := Kf.out.cell
        have lf := Kf.out.lt
        have cz := Kz.out.cell
        have lz := Kz.out.lt
        go_wp2_with fail
        try rw [ey7]
        try clear ey7
        refine (hcm'.out _).mono ?_
        rintro e8 v8 ⟨rfl, hB8⟩
        clear cf lf cz lz
        replace Kf := Lib.hid (Kf.out.below hB8)
        replace Kz := Lib.hid (Kz.out.below hB8)
        have hW8 := Lib.hid (hY7.out.trans (hB8.mono hY7.out.size))
        clear hB8 hY7
        obtain ⟨y8, ey8, Kf', Kz', Kr', hY8⟩ : ∃ y8, v8.alloc (.cells #[.int .i64 z1, .int .i64 z2] 27) = y8 ∧ Hid (Blk (v4.heap.size) 27 #[.int .i64 T, .int .i64 U] y8) ∧ Hid (Blk (v7.heap.size) 27 #[.int .i64 z1, .int .i64 z2] y8) ∧ Hid (Blk (v8.heap.size) 27 #[.int .i64 z1, .int .i64 z2] y8) ∧ Hid (Below w.heap.size w y8) := by
          exact ⟨_, rfl, Lib.hid ((Kf.out.alloc _)), Lib.hid ((Kz.out.alloc _)), Lib.hid (by have h := Blk.new v8 27 #[.int .i64 z1, .int .i64 z2]; simpa using h), Lib.hid (hW8.out.alloc hW8.out.size _)⟩
        clear Kf Kz hW8
        have Kf := Kf'
        have Kz := Kz'
        have Kr := Kr'
        clear Kf' Kz' Kr'
        have cf := Kf.out.cell
        have lf := Kf.out.lt
        have cz := Kz.out.cell
        have lz := Kz.out.lt
        have cr := Kr.out.cell
        have lr := Kr.out.lt
        clear hcm hcm'
        cases four with
        | false =>
          go_wp2_with fail
          try rw [ey8]
          go_meet
          case rel => exact hY8
        | true =>
          obtain ⟨h1, h2, h3, h4, h5⟩ := HM.out rfl
          obtain ⟨xa, xb, xc, xd⟩ := norm_W HDP.out h5
          have hI1 : I64 z1 := by obtain ⟨⟨h1, h2⟩, _⟩ := smallB_bd h5; exact ⟨by omega, by omega⟩
          have hcq := Lib.hid fun w0 => implPellProduct_any d z1 z2 z1 z2 w0 HDD.out hI1 hI1
          rw [h1, h2, h3] at hcq
          simp only [ppz, if_true] at hcq
          clear h1 h2 h3 h5 hI1 HM HDP HDD
          go_wp2_with fail
          try rw [ey8]
          try clear ey8
          clear Kr cr lr
          refine (hcq.out _).mono ?_
          rintro e9 v9 ⟨rfl, hB9⟩
          clear cf lf cz lz
          replace Kf := Lib.hid (Kf.out.below hB9)
          replace Kz := Lib.hid (Kz.out.below hB9)
          have hW9 := Lib.hid (hY8.out.trans (hB9.mono hY8.out.size))
          clear hB9 hY8
          obtain ⟨y9, ey9, Kf', Kz', Kq', hY9⟩ : ∃ y9, v9.alloc (.cells #[.int .i64 T, .int .i64 U] 27) = y9 ∧ Hid (Blk (v4.heap.size) 27 #[.int .i64 T, .int .i64 U] y9) ∧ Hid (Blk (v7.heap.size) 27 #[.int .i64 z1, .int .i64 z2] y9) ∧ Hid (Blk (v9.heap.size) 27 #[.int .i64 T, .int .i64 U] y9) ∧ Hid (Below w.heap.size w y9) := by
            exact ⟨_, rfl, Lib.hid ((Kf.out.alloc _)), Lib.hid ((Kz.out.alloc _)), Lib.hid (by have h := Blk.new v9 27 #[.int .i64 T, .int .i64 U]; simpa using h), Lib.hid (hW9.out.alloc hW9.out.size _)⟩
          clear Kf Kz hW9
          have Kf := Kf'
          have Kz := Kz'
          have Kq := Kq'
          clear Kf' Kz' Kq'
          have cf := Kf.out.cell
          have lf := Kf.out.lt
          have cz := Kz.out.cell
          have lz := Kz.out.lt
          have cq := Kq.out.cell
          have lq := Kq.out.lt
          clear hcq
          go_wp2_with fail
          try rw [ey9]
          go_meet
          case rel => exact hY9
      · go_wp2_with fail
        try rw [ey6]
        try clear ey6
        clear Kx cx lx Ky cy ly Kn cn ln Kp cp lp
        clear xa xb xc xd hxn hkw
        refine (hcm.out _).mono ?_
        rintro e10 v10 ⟨rfl, hB10⟩
        clear cf lf
        replace Kf := Lib.hid (Kf.out.below hB10)
        have hW10 := Lib.hid (hY6.out.trans (hB10.mono hY6.out.size))
        clear hB10 hY6
        obtain ⟨y10, ey10, Kf', Kz', hY10⟩ : ∃ y10, v10.alloc (.cells #[.int .i64 z1, .int .i64 z2] 27) = y10 ∧ Hid (Blk (v4.heap.size) 27 #[.int .i64 T, .int .i64 U] y10) ∧ Hid (Blk (v10.heap.size) 27 #[.int .i64 z1, .int .i64 z2] y10) ∧ Hid (Below w.heap.size w y10) := by
          exact ⟨_, rfl, Lib.hid ((Kf.out.alloc _)), Lib.hid (by have h := Blk.new v10 27 #[.int .i64 z1, .int .i64 z2]; simpa using h), Lib.hid (hW10.out.alloc hW10.out.size _)⟩
        clear Kf hW10
        have Kf := Kf'
        have Kz := Kz'
        clear Kf' Kz'
        have cf := Kf.out.cell
        have lf := Kf.out.lt
        have cz := Kz.out.cell
        have lz := Kz.out.lt
        go_wp2_with fail
        try rw [ey10]
        try clear ey10
        refine (hcm'.out _).mono ?_
        rintro e11 v11 ⟨rfl, hB11⟩
        clear cf lf cz lz
        replace Kf := Lib.hid (Kf.out.below hB11)
        replace Kz := Lib.hid (Kz.out.below hB11)
        have hW11 := Lib.hid (hY10.out.trans (hB11.mono hY10.out.size))
        clear hB11 hY10
        obtain ⟨y11, ey11, Kf', Kz', Kr', hY11⟩ : ∃ y11, v11.alloc (.cells #[.int .i64 z1, .int .i64 z2] 27) = y11 ∧ Hid (Blk (v4.heap.size) 27 #[.int .i64 T, .int .i64 U] y11) ∧ Hid (Blk (v10.heap.size) 27 #[.int .i64 z1, .int .i64 z2] y11) ∧ Hid (Blk (v11.heap.size) 27 #[.int .i64 z1, .int .i64 z2] y11) ∧ Hid (Below w.heap.size w y11) := by
          exact ⟨_, rfl, Lib.hid ((Kf.out.alloc _)), Lib.hid ((Kz.out.alloc _)), Lib.hid (by have h := Blk.new v11 27 #[.int .i64 z1, .int .i64 z2]; simpa using h), Lib.hid (hW11.out.alloc hW11.out.size _)⟩
        clear Kf Kz hW11
        have Kf := Kf'
        have Kz := Kz'
        have Kr := Kr'
        clear Kf' Kz' Kr'
        have cf := Kf.out.cell
        have lf := Kf.out.lt
        have cz := Kz.out.cell
        have lz := Kz.out.lt
        have cr := Kr.out.cell
        have lr := Kr.out.lt
        clear hcm hcm'
        cases four with
        | false =>
          go_wp2_with fail
          try rw [ey11]
          go_meet
          case rel => exact hY11
        | true =>
          obtain ⟨h1, h2, h3, h4, h5⟩ := HM.out rfl
          obtain ⟨xa, xb, xc, xd⟩ := norm_W HDP.out h5
          have hI1 : I64 z1 := by obtain ⟨⟨h1, h2⟩, _⟩ := smallB_bd h5; exact ⟨by omega, by omega⟩
          have hcq := Lib.hid fun w0 => implPellProduct_any d z1 z2 z1 z2 w0 HDD.out hI1 hI1
          rw [h1, h2, h3] at hcq
          simp only [ppz, if_true] at hcq
          clear h1 h2 h3 h5 hI1 HM HDP HDD
          go_wp2_with fail
          try rw [ey11]
          try clear ey11
          clear Kr cr lr
          refine (hcq.out _).mono ?_
          rintro e12 v12 ⟨rfl, hB12⟩
          clear cf lf cz lz
          replace Kf := Lib.hid (Kf.out.below hB12)
          replace Kz := Lib.hid (Kz.out.below hB12)
          have hW12 := Lib.hid (hY11.out.trans (hB12.mono hY11.out.size))
          clear hB12 hY11
          obtain ⟨y12, ey12, Kf', Kz', Kq', hY12⟩ : ∃ y12, v12.alloc (.cells #[.int .i64 T, .int .i64 U] 27) = y12 ∧ Hid (Blk (v4.heap.size) 27 #[.int .i64 T, .int .i64 U] y12) ∧ Hid (Blk (v10.heap.size) 27 #[.int .i64 z1, .int .i64 z2] y12) ∧ Hid (Blk (v12.heap.size) 27 #[.int .i64 T, .int .i64 U] y12) ∧ Hid (Below w.heap.size w y12) := by
            exact ⟨_, rfl, Lib.hid ((Kf.out.alloc _)), Lib.hid ((Kz.out.alloc _)), Lib.hid (by have h := Blk.new v12 27 #[.int .i64 T, .int .i64 U]; simpa using h), Lib.hid (hW12.out.alloc hW12.out.size _)⟩
          clear Kf Kz hW12
          have Kf := Kf'
          have Kz := Kz'
          have Kq := Kq'
          clear Kf' Kz' Kq'
          have cf := Kf.out.cell
          have lf := Kf.out.lt
          have cz := Kz.out.cell
          have lz := Kz.out.lt
          have cq := Kq.out.cell
          have lq := Kq.out.lt
          clear hcq
          go_wp2_with fail
          try rw [ey12]
          go_meet
          case rel => exact hY12
  case rest =>
  clear Kx Ky cx lx cy ly HPP
  have hW9 := hcut
  clear hcut
  go_wp2_with fail
  refine (drawPellProduct_any a1 len1 cap1 _ (HC1.out _ hW9.out) HS.out HQ.out).mono ?_
  rintro e13 v13 ⟨⟨e, ⟨r1, r2⟩, ⟨s1, s2⟩, rfl, he, hr, hs⟩, hB13⟩
  have hW13 := Lib.hid (hW9.out.trans (hB13.mono hW9.out.size))
  clear hB13 hW9
  have hci := Lib.hid fun w0 => implPellProduct_any e r1 r2 s1 s2 w0 he hr hs
  have hcs := Lib.hid fun w0 => specPellProduct_any e r1 r2 s1 s2 w0 he
  obtain ⟨one, hone⟩ : ∃ b, ppB e r1 r2 s1 s2 = b := ⟨_, rfl⟩
  obtain ⟨p1, hp1⟩ : ∃ b, ppz (ppB e r1 r2 s1 s2) (pT e r1 r2 s1 s2) = b := ⟨_, rfl⟩
  obtain ⟨p2, hp2⟩ : ∃ b, ppz (ppB e r1 r2 s1 s2) (pU r1 r2 s1 s2) = b := ⟨_, rfl⟩
  rw [hp1, hp2, hone] at hci hcs
  rw [hone] at hp1 hp2
  have HP1 := Lib.hid hp1
  have HP2 := Lib.hid hp2
  have HONE := Lib.hid hone
  clear he hr hs hp1 hp2 hone
  obtain ⟨y13, ey13, Ka', Kb', hY13⟩ : ∃ y13, (v13.alloc (.cells #[.int .i64 r1, .int .i64 r2] 27)).alloc (.cells #[.int .i64 s1, .int .i64 s2] 27) = y13 ∧ Hid (Blk (v13.heap.size) 27 #[.int .i64 r1, .int .i64 r2] y13) ∧ Hid (Blk (v13.heap.size + 1) 27 #[.int .i64 s1, .int .i64 s2] y13) ∧ Hid (Below w.heap.size w y13) := by
    exact ⟨_, rfl, Lib.hid (by have h := (Blk.new v13 27 #[.int .i64 r1, .int .i64 r2]).alloc (.cells #[.int .i64 s1, .int .i64 s2] 27); simpa using h), Lib.hid (by have h := Blk.new (v13.alloc (.cells #[.int .i64 r1, .int .i64 r2] 27)) 27 #[.int .i64 s1, .int .i64 s2]; simpa using h), Lib.hid ((hW13.out.alloc hW13.out.size _).alloc (by have := hW13.out.size; simp; omega) _)⟩
  clear hW13
  have Ka := Ka'
  have Kb := Kb'
  clear Ka' Kb'
  have ca := Ka.out.cell
  have la := Ka.out.lt
  have cb := Kb.out.cell
  have lb := Kb.out.lt
  go_wp2_with fail
  try rw [ey13]
  try clear ey13
  refine (hci.out _).mono ?_
  rintro e14 v14 ⟨rfl, hB14⟩
  clear ca la cb lb
  replace Ka := Lib.hid (Ka.out.below hB14)
  replace Kb := Lib.hid (Kb.out.below hB14)
  have hW14 := Lib.hid (hY13.out.trans (hB14.mono hY13.out.size))
  clear hB14 hY13
  obtain ⟨y14, ey14, Ka', Kb', Kp', hY14⟩ : ∃ y14, v14.alloc (.cells #[.int .i64 p1, .int .i64 p2] 27) = y14 ∧ Hid (Blk (v13.heap.size) 27 #[.int .i64 r1, .int .i64 r2] y14) ∧ Hid (Blk (v13.heap.size + 1) 27 #[.int .i64 s1, .int .i64 s2] y14) ∧ Hid (Blk (v14.heap.size) 27 #[.int .i64 p1, .int .i64 p2] y14) ∧ Hid (Below w.heap.size w y14) := by
    exact ⟨_, rfl, Lib.hid ((Ka.out.alloc _)), Lib.hid ((Kb.out.alloc _)), Lib.hid (by have h := Blk.new v14 27 #[.int .i64 p1, .int .i64 p2]; simpa using h), Lib.hid (hW14.out.alloc hW14.out.size _)⟩
  clear Ka Kb hW14
  have Ka := Ka'
  have Kb := Kb'
  have Kp := Kp'
  clear Ka' Kb' Kp'
  have ca := Ka.out.cell
  have la := Ka.out.lt
  have cb := Kb.out.cell
  have lb := Kb.out.lt
  have cp := Kp.out.cell
  have lp := Kp.out.lt
  go_wp2_with fail
  try rw [ey14]
  try clear ey14
  refine (hcs.out _).mono ?_
  rintro e15 v15 ⟨rfl, hB15⟩
  clear ca la cb lb cp lp
  replace Ka := Lib.hid (Ka.out.below hB15)
  replace Kb := Lib.hid (Kb.out.below hB15)
  replace Kp := Lib.hid (Kp.out.below hB15)
  have hW15 := Lib.hid (hY14.out.trans (hB15.mono hY14.out.size))
  clear hB15 hY14
  obtain ⟨y15, ey15, Ka', Kb', Kp', Kq', hY15⟩ : ∃ y15, v15.alloc (.cells #[.int .i64 p1, .int .i64 p2] 27) = y15 ∧ Hid (Blk (v13.heap.size) 27 #[.int .i64 r1, .int .i64 r2] y15) ∧ Hid (Blk (v13.heap.size + 1) 27 #[.int .i64 s1, .int .i64 s2] y15) ∧ Hid (Blk (v14.heap.size) 27 #[.int .i64 p1, .int .i64 p2] y15) ∧ Hid (Blk (v15.heap.size) 27 #[.int .i64 p1, .int .i64 p2] y15) ∧ Hid (Below w.heap.size w y15) := by
    exact ⟨_, rfl, Lib.hid ((Ka.out.alloc _)), Lib.hid ((Kb.out.alloc _)), Lib.hid ((Kp.out.alloc _)), Lib.hid (by have h := Blk.new v15 27 #[.int .i64 p1, .int .i64 p2]; simpa using h), Lib.hid (hW15.out.alloc hW15.out.size _)⟩
  clear Ka Kb Kp hW15
  have Ka := Ka'
  have Kb := Kb'
  have Kp := Kp'
  have Kq := Kq'
  clear Ka' Kb' Kp' Kq'
  have ca := Ka.out.cell
  have la := Ka.out.lt
  have cb := Kb.out.cell
  have lb := Kb.out.lt
  have cp := Kp.out.cell
  have lp := Kp.out.lt
  have cq := Kq.out.cell
  have lq := Kq.out.lt
  clear hci hcs
  cases one with
  | false =>
    clear HP1 HP2 HONE
    go_wp2_with fail
    try rw [ey15]
    try clear ey15
    clear Ka ca la Kb cb lb Kp cp lp Kq cq lq
    refine (drawPellOne_any a1 len1 cap1 _ (HC1.out _ hY15.out) HS.out).mono ?_
    rintro e16 v16 ⟨⟨n, rfl, hn⟩, hB16⟩
    have hW16 := Lib.hid (hY15.out.trans (hB16.mono hY15.out.size))
    clear hB16 hY15
    obtain ⟨z1, z2, three, hPO⟩ := PO.exist n
    have hci := Lib.hid fun w0 => implPellOne_any n z1 z2 three w0 hPO
    have hcs := Lib.hid fun w0 => specPellOne_any n z1 z2 three w0 hn hPO
    have HPO := Lib.hid hPO
    clear hPO hn
    go_wp2_with fail
    refine (hci.out _).mono ?_
    rintro e17 v17 ⟨rfl, hB17⟩
    have hW17 := Lib.hid (hW16.out.trans (hB17.mono hW16.out.size))
    clear hB17 hW16
    obtain ⟨y17, ey17, Kz', hY17⟩ : ∃ y17, v17.alloc (.cells #[.int .i64 z1, .int .i64 z2] 27) = y17 ∧ Hid (Blk (v17.heap.size) 27 #[.int .i64 z1, .int .i64 z2] y17) ∧ Hid (Below w.heap.size w y17) := by
      exact ⟨_, rfl, Lib.hid (by have h := Blk.new v17 27 #[.int .i64 z1, .int .i64 z2]; simpa using h), Lib.hid (hW17.out.alloc hW17.out.size _)⟩
    clear hW17
    have Kz := Kz'
    clear Kz'
    have cz := Kz.out.cell
    have lz := Kz.out.lt
    go_wp2_with fail
    try rw [ey17]
    try clear ey17
    refine (hcs.out _).mono ?_
    rintro e18 v18 ⟨rfl, hB18⟩
    clear cz lz
    replace Kz := Lib.hid (Kz.out.below hB18)
    have hW18 := Lib.hid (hY17.out.trans (hB18.mono hY17.out.size))
    clear hB18 hY17
    obtain ⟨y18, ey18, Kz', Ky', hY18⟩ : ∃ y18, v18.alloc (.cells #[.int .i64 z1, .int .i64 z2] 27) = y18 ∧ Hid (Blk (v17.heap.size) 27 #[.int .i64 z1, .int .i64 z2] y18) ∧ Hid (Blk (v18.heap.size) 27 #[.int .i64 z1, .int .i64 z2] y18) ∧ Hid (Below w.heap.size w y18) := by
      exact ⟨_, rfl, Lib.hid ((Kz.out.alloc _)), Lib.hid (by have h := Blk.new v18 27 #[.int .i64 z1, .int .i64 z2]; simpa using h), Lib.hid (hW18.out.alloc hW18.out.size _)⟩
    clear Kz hW18
    have Kz := Kz'
    have Ky := Ky'
    clear Kz' Ky'
    have cz := Kz.out.cell
    have lz := Kz.out.lt
    have cy := Ky.out.cell
    have ly := Ky.out.lt
    clear hci hcs
    cases three with
    | false =>
      go_wp2_with fail
      try rw [ey18]
      go_ret
      refine ⟨rfl, ?_⟩
      have hX := hY18.out
      repeat (first | with_reducible exact Below.refl _ _ | with_reducible assumption | ((with_reducible refine blA ?_ ?_); (focus (first | omega | (simp <;> omega)))) | (with_reducible refine blD ?_) | (with_reducible refine blN ?_) | ((with_reducible refine blS ?_ ?_); (focus (first | omega | (simp <;> omega)))) | ((with_reducible refine blT (by assumption) ?_ ?_); (focus (first | omega | (simp <;> omega)))))
    | true =>
      obtain ⟨g1, g2, g3, g4⟩ := plain4 HPO.out
      obtain ⟨xa, xb, xc, xd⟩ := norm_W1 g2 g3 g4
      clear g2 g3 g4 HPO
      go_wp2_with fail
      try rw [ey18]
      go_ret
      refine ⟨rfl, ?_⟩
      have hX := hY18.out
      repeat (first | with_reducible exact Below.refl _ _ | with_reducible assumption | ((with_reducible refine blA ?_ ?_); (focus (first | omega | (simp <;> omega)))) | (with_reducible refine blD ?_) | (with_reducible refine blN ?_) | ((with_reducible refine blS ?_ ?_); (focus (first | omega | (simp <;> omega)))) | ((with_reducible refine blT (by assumption) ?_ ?_); (focus (first | omega | (simp <;> omega)))))
  | true =>
    obtain ⟨f1, f2, hf1, hf2, na, nb, np, hpe, sa, sb, sp⟩ := plain3 HONE.out
    have hp1 := HP1.out
    have hp2 := HP2.out
    simp only [ppz, if_true] at hp1 hp2
    rw [hp1, hp2] at np sp
    obtain ⟨xa, xb, xc, xd⟩ := norm_W hpe sa
    obtain ⟨ya, yb, yc, yd⟩ := norm_W hpe sb
    obtain ⟨za, zb, zc, zd⟩ := norm_W hpe sp
    have hq1 : (r1 * r1 - e * r2 * r2).tdiv 4 = f1 := by rw [na]; exact Int.mul_tdiv_cancel_left _ (by omega)
    have hq2 : (s1 * s1 - e * s2 * s2).tdiv 4 = f2 := by rw [nb]; exact Int.mul_tdiv_cancel_left _ (by omega)
    have hq3 : (p1 * p1 - e * p2 * p2).tdiv 4 = f1 * f2 := by rw [np]; exact Int.mul_tdiv_cancel_left _ (by omega)
    have hw1 : wrap64 f1 = f1 := by unfold wrap64; omega
    have hw2 : wrap64 f2 = f2 := by unfold wrap64; omega
    have hw3 : wrap64 (f1 * f2) = f1 * f2 := by rcases hf1 with rfl | rfl <;> rcases hf2 with rfl | rfl <;> (unfold wrap64; omega)
    clear HP1 HP2 HONE hp1 hp2 na nb np hpe sa sb sp hf1 hf2
    go_wp2_with fail
    try rw [ey15]
    try clear ey15
    clear xa xb xc xd ya yb yc yd za zb zc zd hq1 hq2 hq3 hw1 hw2 hw3
    clear Ka ca la Kb cb lb Kp cp lp Kq cq lq
    refine (drawPellOne_any a1 len1 cap1 _ (HC1.out _ hY15.out) HS.out).mono ?_
    rintro e19 v19 ⟨⟨n, rfl, hn⟩, hB19⟩
    have hW19 := Lib.hid (hY15.out.trans (hB19.mono hY15.out.size))
    clear hB19 hY15
    obtain ⟨z1, z2, three, hPO⟩ := PO.exist n
    have hci := Lib.hid fun w0 => implPellOne_any n z1 z2 three w0 hPO
    have hcs := Lib.hid fun w0 => specPellOne_any n z1 z2 three w0 hn hPO
    have HPO := Lib.hid hPO
    clear hPO hn
    go_wp2_with fail
    refine (hci.out _).mono ?_
    rintro e20 v20 ⟨rfl, hB20⟩
    have hW20 := Lib.hid (hW19.out.trans (hB20.mono hW19.out.size))
    clear hB20 hW19
    obtain ⟨y20, ey20, Kz', hY20⟩ : ∃ y20, v20.alloc (.cells #[.int .i64 z1, .int .i64 z2] 27) = y20 ∧ Hid (Blk (v20.heap.size) 27 #[.int .i64 z1, .int .i64 z2] y20) ∧ Hid (Below w.heap.size w y20) := by
      exact ⟨_, rfl, Lib.hid (by have h := Blk.new v20 27 #[.int .i64 z1, .int .i64 z2]; simpa using h), Lib.hid (hW20.out.alloc hW20.out.size _)⟩
    clear hW20
    have Kz := Kz'
    clear Kz'
    have cz := Kz.out.cell
    have lz := Kz.out.lt
    go_wp2_with fail
    try rw [ey20]
    try clear ey20
    refine (hcs.out _).mono ?_
    rintro e21 v21 ⟨rfl, hB21⟩
    clear cz lz
    replace Kz := Lib.hid (Kz.out.below hB21)
    have hW21 := Lib.hid (hY20.out.trans (hB21.mono hY20.out.size))
    clear hB21 hY20
    obtain ⟨y21, ey21, Kz', Ky', hY21⟩ : ∃ y21, v21.alloc (.cells #[.int .i64 z1, .int .i64 z2] 27) = y21 ∧ Hid (Blk (v20.heap.size) 27 #[.int .i64 z1, .int .i64 z2] y21) ∧ Hid (Blk (v21.heap.size) 27 #[.int .i64 z1, .int .i64 z2] y21) ∧ Hid (Below w.heap.size w y21) := by
      exact ⟨_, rfl, Lib.hid ((Kz.out.alloc _)), Lib.hid (by have h := Blk.new v21 27 #[.int .i64 z1, .int .i64 z2]; simpa using h), Lib.hid (hW21.out.alloc hW21.out.size _)⟩
    clear Kz hW21
    have Kz := Kz'
    have Ky := Ky'
    clear Kz' Ky'
    have cz := Kz.out.cell
    have lz := Kz.out.lt
    have cy := Ky.out.cell
    have ly := Ky.out.lt
    clear hci hcs
    cases three with
    | false =>
      go_wp2_with fail
      try rw [ey21]
      go_ret
      refine ⟨rfl, ?_⟩
      have hX := hY21.out
      repeat (first | with_reducible exact Below.refl _ _ | with_reducible assumption | ((with_reducible refine blA ?_ ?_); (focus (first | omega | (simp <;> omega)))) | (with_reducible refine blD ?_) | (with_reducible refine blN ?_) | ((with_reducible refine blS ?_ ?_); (focus (first | omega | (simp <;> omega)))) | ((with_reducible refine blT (by assumption) ?_ ?_); (focus (first | omega | (simp <;> omega)))))
    | true =>
      obtain ⟨g1, g2, g3, g4⟩ := plain4 HPO.out
      obtain ⟨xa, xb, xc, xd⟩ := norm_W1 g2 g3 g4
      clear g2 g3 g4 HPO
      go_wp2_with fail
      try rw [ey21]
      go_ret
      refine ⟨rfl, ?_⟩
      have hX := hY21.out
      repeat (first | with_reducible exact Below.refl _ _ | with_reducible assumption | ((with_reducible refine blA ?_ ?_); (focus (first | omega | (simp <;> omega)))) | (with_reducible refine blD ?_) | (with_reducible refine blN ?_) | ((with_reducible refine blS ?_ ?_); (focus (first | omega | (simp <;> omega)))) | ((with_reducible refine blT (by assumption) ?_ ?_); (focus (first | omega | (simp <;> omega)))))
end Go.Proofs.Ytemnkfigjpphgaa
