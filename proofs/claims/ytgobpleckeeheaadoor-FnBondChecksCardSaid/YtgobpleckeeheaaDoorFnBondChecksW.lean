/-
  What is proved: the law FnBondChecks returns true and changes nothing that was there, for every input. No conditions beyond the arguments' own ranges.
-/
import Derived.Test.YtgobpleckeeheaaDoorOneBad2
import Derived.Test.YtgobpleckeeheaaDoorA2
import Derived.Test.YtgobpleckeeheaaDoorA2B
import Derived.Test.YtgobpleckeeheaaDoorProblemName
import Derived.Deep.RegionHeld3
namespace Go.Proofs.YtgobpleckeeheaaDoor
open Go.RowKit
set_option linter.unusedVariables false

theorem a2Long_two (w : World) (A B : Option Addr) (n c m d : Nat) (h1 : n ≤ 3000) (h2 : 3000 < m) :
    Calls Tryd.prog 4 #[.slice A n c, .slice B m d] w fun e w' => e = .returned (.bool true) ∧ w = w' := by
  have d1 : decide (3000 < (n : Int)) = false := by simp; omega
  have d2 : decide (3000 < (m : Int)) = true := by simp; omega
  clear h1 h2
  go_enter Tryd.func4, Tryd.ntmps4
  go_wp2
  go_ret
  exact ⟨rfl, rfl⟩
theorem bond_small {s : ByteArray} {zs : List Course} (h : bondOk s zs = true) : s.size ≤ 24 ∧ zs.length ≤ 8 ∧ Texts zs := by
  refine ⟨?_, (bond_len' h).2, fun k z hz => ?_⟩
  · have : nameB s = true := by
      unfold bondOk at h
      rw [Bool.and_eq_true] at h
      exact h.1
    have := (of_decide_eq_true this).2.1
    omega
  · obtain ⟨x, y⟩ := z
    obtain ⟨h3, -, h4, -⟩ := course_split (bond_at h hz)
    unfold maxLen
    constructor <;> simp <;> omega
set_option maxRecDepth 100000 in
set_option maxHeartbeats 4000000 in
theorem fnBondChecksWalk (a0 : Option Addr) (n0 c0 : Nat) (z0 : List Int) (a1 : Option Addr) (n1 c1 : Nat) (z1 : List Int) (w : World) (w0 : ArgInts .u8 w a0 n0 c0 z0) (w1 : ArgInts .u8 w a1 n1 c1 z1) (hT : MaxLenIs w) :
    Calls Tryd.prog 3 #[.slice a0 n0 c0, .slice a1 n1 c1] w fun e w' => e = .returned (.bool true) ∧ Below w.heap.size w w' := by
  have hMz : 0 < w.heap.size := by obtain ⟨m, hm⟩ := hT; exact cell_lt hm
  have HM := hide hT
  have W0 := hide w0
  have W1 := hide w1
  clear w0 w1 hT
  by_cases hlong : 3000 < n0
  · go_enter Tryd.func3, Tryd.ntmps3
    go_wp2_with fail
    refine (a2Long_yes _ _ _ _ _ _ _ hlong).mono ?_
    rintro e w1 ⟨rfl, rfl⟩
    go_wp2
    go_ret
    exact ⟨rfl, Below.refl _ _⟩
  have hshort : n0 ≤ 3000 := by omega
  clear hlong
  by_cases hlong : 3000 < n1
  · go_enter Tryd.func3, Tryd.ntmps3
    go_wp2_with fail
    refine (a2Long_two _ _ _ _ _ _ _ hshort hlong).mono ?_
    rintro e w1 ⟨rfl, rfl⟩
    go_wp2
    go_ret
    exact ⟨rfl, Below.refl _ _⟩
  have hshort2 : n1 ≤ 3000 := by omega
  clear hlong
  go_enter Tryd.func3, Tryd.ntmps3
  have B0 := hide (Below.refl w.heap.size w)
  go_wp2_with fail
  refine (a2Long_no _ _ _ _ _ _ _ hshort hshort2).mono ?_
  rintro e u1 ⟨rfl, rfl⟩
  go_wp2_with fail
  refine (a2Bond _ _ _ _ z0 W0.out).mono ?_
  rintro e u2 ⟨s, zs, B, d, hbo, rfl, ho, hb2⟩
  have e2 : w.heap.size ≤ u2.heap.size := hb2.size
  have B2 := hide (B0.out.trans (hb2.mono B0.out.size))
  clear hb2 B0
  have hss := bond_small hbo
  have TS := hide hss.2.2
  have hnz0 := hss.2.1
  have hnz1 := (bond_len' hbo).1
  have hss := hss.1
  have HBO := hide hbo
  clear hbo
  obtain ⟨nz, hnz⟩ : ∃ r, zs.length = r := ⟨_, rfl⟩
  rw [hnz] at ho hnz0 hnz1 ⊢
  have HL := hide hnz
  clear hnz
  have U_9 := hide ho
  clear ho
  obtain ⟨u3, hu3⟩ : ∃ u, u2.alloc (.cells #[.string s, .slice B nz d] 26) = u := ⟨_, rfl⟩
  have hb3 : Below u2.heap.size u2 u3 := by rw [← hu3]; exact (Below.refl _ _).alloc (Nat.le_refl _) _
  have e3 : u2.heap.size < u3.heap.size := by rw [← hu3]; simp
  have B3 := hide (B2.out.trans (hb3.mono B2.out.size))
  have f3_0 : u3.cell? ⟨u2.heap.size, 0, none⟩ = some (.string s) := by rw [← hu3]; simp [go_sem]
  have f3_1 : u3.cell? ⟨u2.heap.size, 1, none⟩ = some (.slice B nz d) := by rw [← hu3]; simp [go_sem]
  have f3_0o := f3_0
  rw [← hu3] at f3_0o
  have f3_1o := f3_1
  rw [← hu3] at f3_1o
  have U_3 := hide (U_9.out.below hb3)
  clear U_9
  clear hb3 B2
  have HU3 := hide hu3
  clear hu3
  go_wp2_with fail
  rw [HU3.out]
  refine (a2At_int _ _ _ _ z1 0 (nz : Int) (by omega) (by omega) (by omega) (by omega) (W1.out.below B3.out)).mono ?_
  rintro e x4 ⟨va, hva0, hva1, rfl, rfl⟩
  obtain ⟨p, rfl⟩ := Int.eq_ofNat_of_zero_le hva0
  have hpn : p < nz := by omega
  obtain ⟨v5, hu5⟩ : ∃ u, (u3.alloc (.cells #[.int .i64 3, .int .i64 3, .int .i64 4, .int .i64 4, .int .i64 5, .int .i64 3] 2)).alloc (.cells #[.string ⟨#[120]⟩, .string ⟨#[83, 43, 83, 43, 83]⟩, .string ⟨#[43, 83]⟩, .string ⟨#[]⟩, .string ⟨#[67, 67, 67, 67, 67, 67, 67, 43, 83]⟩, .string ⟨#[67]⟩] 9) = u := ⟨_, rfl⟩
  have hb5 : Below u3.heap.size u3 v5 := by rw [← hu5]; exact ((Below.refl _ _).alloc (Nat.le_refl _) _).alloc (by simp) _
  have e5 : u3.heap.size + 2 = v5.heap.size := by rw [← hu5]; simp
  have hki : Blk v5 u3.heap.size 2 #[.int .i64 3, .int .i64 3, .int .i64 4, .int .i64 4, .int .i64 5, .int .i64 3] := by rw [← hu5]; exact (Blk.new _ _ _).alloc _
  have hkw : Blk v5 (u3.heap.size + 1) 9 #[.string ⟨#[120]⟩, .string ⟨#[83, 43, 83, 43, 83]⟩, .string ⟨#[43, 83]⟩, .string ⟨#[]⟩, .string ⟨#[67, 67, 67, 67, 67, 67, 67, 43, 83]⟩, .string ⟨#[67]⟩] := by
    rw [← hu5]
    have h1 := Blk.new (u3.alloc (.cells #[.int .i64 3, .int .i64 3, .int .i64 4, .int .i64 4, .int .i64 5, .int .i64 3] 2)) 9 #[.string ⟨#[120]⟩, .string ⟨#[83, 43, 83, 43, 83]⟩, .string ⟨#[43, 83]⟩, .string ⟨#[]⟩, .string ⟨#[67, 67, 67, 67, 67, 67, 67, 43, 83]⟩, .string ⟨#[67]⟩]
    rwa [show (u3.alloc (.cells #[.int .i64 3, .int .i64 3, .int .i64 4, .int .i64 4, .int .i64 5, .int .i64 3] 2)).heap.size = u3.heap.size + 1 from by simp] at h1
  have RK := hide (row_kinds hki)
  have RW := hide (row_words hkw)
  have B5 := hide (B3.out.trans (hb5.mono B3.out.size))
  clear f3_0o f3_1o
  replace f3_0 := (hb5.cell (p := ⟨u2.heap.size, 0, none⟩) (show u2.heap.size < u3.heap.size from by omega)).trans f3_0
  replace f3_1 := (hb5.cell (p := ⟨u2.heap.size, 1, none⟩) (show u2.heap.size < u3.heap.size from by omega)).trans f3_1
  have U_5 := hide (U_3.out.below hb5)
  clear U_3
  have f3_0o := f3_0
  rw [← hu5] at f3_0o
  have f3_1o := f3_1
  rw [← hu5] at f3_1o
  have HU5 := hide hu5
  clear hb5 hki hkw hu5 B3
  go_wp2_with fail
  rw [HU5.out]
  refine (a2At_int _ _ _ _ z1 1 6 (by omega) (by omega) (by omega) (by omega) (W1.out.below B5.out)).mono ?_
  rintro e x5 ⟨vb, hvb0, hvb1, rfl, rfl⟩
  obtain ⟨kk, rfl⟩ := Int.eq_ofNat_of_zero_le hvb0
  clear f3_0o
  clear f3_1o
  obtain ⟨v, hv⟩ : ∃ v, wrongW[kk]? = some v := ⟨wrongW[kk]'(by show kk < 6; omega), List.getElem?_eq_getElem _⟩
  obtain ⟨q, hq⟩ : ∃ q, wrongK[kk]? = some q := ⟨wrongK[kk]'(by show kk < 6; omega), List.getElem?_eq_getElem _⟩
  obtain ⟨hq1, hq2, hq3, hq4⟩ := wrong_kind hv hq
  have HV := hide hv
  have HQ := hide hq
  have HK1 := hide (⟨hq1, hq2, hq3⟩ : _ ∧ _ ∧ _)
  have hkk : kk < 6 := by omega
  have hkk' : (kk : Int) < 6 := by omega
  clear hv hq hq1 hq2 hq3
  go_wp2
  rw [← oneT_zero s zs p v]
  go_loopw [10, 11] (fun t i wr => ∃ j : Nat, j ≤ nz ∧ t = .string (oneT s zs p v j) ∧ i = .int .i64 j ∧ Hid (Below v5.heap.size v5 wr)) (fun _ i _ => nz - (intOf i).toNat)
  case atStart => exact ⟨0, by omega, by first | rfl | rw [oneT_zero], rfl, hide (Below.refl _ _)⟩
  case round =>
    obtain ⟨j, hj, rfl, rfl, HW⟩ := hrel
    have hts := oneT_size (p := p) (i := j) (v := v) HBO.out hss hq4
    have y0 := (HW.out.cell (p := ⟨u2.heap.size, 0, none⟩) (show u2.heap.size < v5.heap.size from by omega)).trans f3_0
    have y1 := (HW.out.cell (p := ⟨u2.heap.size, 1, none⟩) (show u2.heap.size < v5.heap.size from by omega)).trans f3_1
    by_cases hlt : j < nz
    · have hji : (j : Int) < (nz : Int) := by omega
      by_cases hjp : j = p
      · subst hjp
        obtain ⟨b, off, hE, hb, a0⟩ := row_at_1 (RW.out.below HW.out) HV.out rfl
        injection hE with hE
        injection hE with hE1 hE2
        subst hE1 hE2
        rw [Nat.zero_add] at a0
        have HT2 := hide (oneT_at (s := s) (v := v) (show j < zs.length from by rw [HL.out]; exact hpn))
        obtain ⟨T, hT⟩ : ∃ T, oneT s zs j v j = T := ⟨_, rfl⟩
        rw [hT] at hts
        rw [hT]
        have HT := hide hT
        clear hT
        have s1 : ¬ 9223372036854775807 < 1 + v.size := by omega
        have s2 : ¬ 9223372036854775807 < T.size + (1 + v.size) := by omega
        go_wp2
        go_roundw
        case rel => exact ⟨j + 1, by omega, by rw [HT2.out, HT.out], by go_num, HW⟩
        case measure => simp [intOf]; omega
      · obtain ⟨⟨x, y⟩, hz⟩ : ∃ c, zs[j]? = some c := ⟨zs[j]'(by have := HL.out; omega), List.getElem?_eq_getElem (by have := HL.out; omega)⟩
        obtain ⟨b, off, rfl, hb, a0, a1⟩ := row_at_2 ((U_5.out.below HW.out).row (fun _ => rfl)) hz rfl
        have hok : Course.ok ⟨x, y⟩ = true := bond_at HBO.out hz
        have HT2 := hide (oneT_other (p := p) (v := v) (s := s) hz hjp)
        obtain ⟨hr1, hr2, hr3⟩ := one_rest hok
        have HTX := hide (show Texts [⟨x, y⟩] from fun k z hk => by
          match k, hk with
          | 0, hk => obtain rfl := Option.some.inj hk; exact TS.out j _ hz)
        obtain ⟨T, hT⟩ : ∃ T, oneT s zs p v j = T := ⟨_, rfl⟩
        rw [hT] at hts HT2
        rw [hT]
        have hjp' : ¬ (j : Int) = (p : Int) := by omega
        have hjp2 : ((j : Int) == (p : Int)) = false := by simpa using hjp'
        obtain ⟨R, hR⟩ : ∃ R, textB ⟨#[120]⟩ [⟨x, y⟩] = R := ⟨_, rfl⟩
        rw [hR] at hr1 hr2 hr3
        have HRR := hide hR
        obtain ⟨Q, hQ⟩ : ∃ Q, R.extract 1 R.size = Q := ⟨_, rfl⟩
        have hqs : Q.size + 1 = R.size := by rw [← hQ, ByteArray.size_extract]; omega
        have HQ2 := hide (hQ.symm.trans hr1)
        have HQQ := hide hQ
        have s1 : ¬ 9223372036854775807 < T.size + Q.size := by omega
        clear hz hok hr1 hR hT hQ hjp
        go_wp2_with fail
        refine (spec_bondText ⟨#[120]⟩ _ 1 1 [⟨x, y⟩] _ (by decide) (by omega) rfl (Row.of_own (base := 0) (t := 33) (n := 1) (c := 1) (fun _ => rfl) rfl ⟨rfl, .inr ⟨_, 1, _, rfl, Nat.zero_le _, Blk.new _ _ _, by decide, by decide, rfl, rfl⟩⟩) HTX.out).mono ?_
        rintro e w6 ⟨rfl, hb6⟩
        rw [HRR.out]
        have HW6 := hide ((HW.out.alloc HW.out.size (.cells #[.string x, .string y] 33)).trans (hb6.mono (by have := HW.out.size; simp; omega)))
        clear hb6
        go_wp2
        go_roundw
        case rel => exact ⟨j + 1, by omega, by rw [HT2.out, ← HQ2.out, ← HQQ.out], by go_num, HW6⟩
        case measure => simp [intOf]; omega
    · obtain rfl : j = nz := by omega
      have hwds := oneT_words (p := p) HBO.out HL.out HK1.out.2.2
      have hone := one_bads (s := s) (v := v) HBO.out (show p < zs.length from by rw [HL.out]; exact hpn) HK1.out.1 HK1.out.2.1
      obtain ⟨T, hT⟩ : ∃ T, oneT s zs p v j = T := ⟨_, rfl⟩
      rw [hT] at hts hwds
      rw [hT]
      have hbp : badsP T = [⟨((p + 1 : Nat) : Int), q⟩] := by
        unfold badsP
        rw [if_neg (by omega)]
        unfold bads
        rw [hwds]
        exact hone.1
      have hok : okT T = false := okT_false (fun q => hone.2 (by rw [← hwds]; exact okT_iff.1 q))
      have HBP := hide hbp
      have HOK := hide hok
      have HBW := hide (B5.out.trans (HW.out.mono B5.out.size))
      have hzw := HW.out.size
      have hpq : q = 3 ∨ q = 4 ∨ q = 5 := by
        have h1 := HQ.out
        match kk, hkk, h1 with
        | 0, _, h1 => left; exact (Option.some.inj h1).symm
        | 1, _, h1 => left; exact (Option.some.inj h1).symm
        | 2, _, h1 => right; left; exact (Option.some.inj h1).symm
        | 3, _, h1 => right; left; exact (Option.some.inj h1).symm
        | 4, _, h1 => right; right; exact (Option.some.inj h1).symm
        | 5, _, h1 => left; exact (Option.some.inj h1).symm
      obtain ⟨PN, hPN⟩ : ∃ P, problemName q = P := ⟨_, rfl⟩
      have hne : PN.toList.isEmpty = false := by rw [← hPN, Lib.toList_data]; rcases hpq with rfl | rfl | rfl <;> rfl
      have HPN := hide hPN
      clear hwds hone hT hbp hok hPN hpq
      go_wp2_with fail
      refine (impl_checkBond T _ (by omega) (HM.out.below hMz HBW.out)).mono ?_
      rintro e w7 ⟨m7, A7, c7, B7, d7, hl7, hh7, rfl, ho7, hp7, hb7⟩
      rw [readN_no HOK.out, readZ_no HOK.out, HBP.out, if_neg (show ¬ 400 < T.size from by omega), show ([] : List Course).length = 0 from rfl, show ([⟨((p + 1 : Nat) : Int), q⟩] : List Prob).length = 1 from rfl]
      rw [HBP.out, show ([⟨((p + 1 : Nat) : Int), q⟩] : List Prob).length = 1 from rfl] at hp7
      rcases hp7.head with ⟨_, h0, _⟩ | ⟨pg, rfl, _, _⟩
      · omega
      have HP7 := hide hp7
      have HB7 := hide (HBW.out.trans (hb7.mono HBW.out.size))
      have hz7 := hb7.size
      have RK7 := hide ((RK.out.below HW.out).below hb7)
      clear ho7 hp7 hb7
      go_wp2_with fail
      refine (impl_readBond T _ (by omega) (HM.out.below hMz (HB7.out.alloc HB7.out.size _))).mono ?_
      rintro e w8 ⟨A8, c8, rfl, ho8, hb8⟩
      rw [readN_no HOK.out, readZ_no HOK.out, HOK.out, show ([] : List Course).length = 0 from rfl]
      have hb78 := ((Below.refl w7.heap.size w7).alloc (Nat.le_refl _) (.cells #[.string ⟨#[]⟩, .slice A7 0 c7] 26)).trans (hb8.mono (by simp))
      have HB8 := hide (HB7.out.trans (hb78.mono HB7.out.size))
      obtain ⟨pb, po, hpe, hpb, p0, p1⟩ := row_at_2 (i := 0) ((HP7.out.below hb78).row (fun _ => rfl)) rfl rfl
      obtain ⟨kb, ko, hke, hkb, k0⟩ := row_at_1 (RK7.out.below hb78) HQ.out rfl
      injection hpe with hpe
      injection hpe with hpe1 hpe2
      injection hke with hke
      injection hke with hke1 hke2
      subst hpe1 hpe2 hke1 hke2
      have p0' : w8.cell? ⟨pg, 0, none⟩ = some (.int .i64 ((p : Int) + 1)) := by simpa using p0
      have p1' : w8.cell? ⟨pg, 1, none⟩ = some (.int .i64 q) := by simpa using p1
      have k0' : w8.cell? ⟨u3.heap.size, kk, none⟩ = some (.int .i64 q) := by simpa using k0
      obtain ⟨w9, hw9⟩ : ∃ u, w8.alloc (.cells #[.string ⟨#[]⟩, .slice A8 0 c8] 26) = u := ⟨_, rfl⟩
      have q0 : w9.cell? ⟨pg, 0, none⟩ = some (.int .i64 ((p : Int) + 1)) := by rw [← hw9]; exact (World.cell?_alloc_lt w8 _ ⟨pg, 0, none⟩ hpb).trans p0'
      have q1 : w9.cell? ⟨pg, 1, none⟩ = some (.int .i64 q) := by rw [← hw9]; exact (World.cell?_alloc_lt w8 _ ⟨pg, 1, none⟩ hpb).trans p1'
      have q2 : w9.cell? ⟨u3.heap.size, kk, none⟩ = some (.int .i64 q) := by rw [← hw9]; exact (World.cell?_alloc_lt w8 _ ⟨u3.heap.size, kk, none⟩ hkb).trans k0'
      have HB9 := hide (show Below w.heap.size w w9 from by rw [← hw9]; exact HB8.out.alloc HB8.out.size _)
      have hp9 : pg < w9.heap.size := by rw [← hw9]; simp; omega
      have hk9 : u3.heap.size < w9.heap.size := by rw [← hw9]; simp; omega
      have HW9 := hide hw9
      have v7 := Go.IntWalk.i64_in ((p : Int) + 1) ⟨by omega, by omega⟩
      clear p0 p1 k0 p0' p1' k0' hb8 hb78 ho8 hw9
      go_wp2
      rw [HW9.out]
      go_region_held3 (fun w' => w'.cell? ⟨pg, 0, none⟩ = some (.int .i64 ((p : Int) + 1)) ∧ w'.cell? ⟨pg, 1, none⟩ = some (.int .i64 q) ∧ w'.cell? ⟨u3.heap.size, kk, none⟩ = some (.int .i64 q))
        (first
          | go_keep
          | exact ⟨q0, q1, q2⟩)
        (first
          | (go_at_call 10
             refine (impl_problemName q _).mono ?_
             rintro e w10 ⟨rfl, hb10⟩
             rw [HPN.out]
             replace q0 := (hb10.cell (p := ⟨pg, 0, none⟩) hp9).trans q0
             replace q1 := (hb10.cell (p := ⟨pg, 1, none⟩) hp9).trans q1
             replace q2 := (hb10.cell (p := ⟨u3.heap.size, kk, none⟩) hk9).trans q2
             have HB10 := hide (HB9.out.drew.trans (hb10.mono HB9.out.size))
             clear hb10))
      go_wp2
      go_ret
      exact ⟨rfl, HB10.out⟩
end Go.Proofs.YtgobpleckeeheaaDoor
