/-
  What is proved: clays as the reference draws them, seldom valid ones too. Conditions: as for the source.
-/
import Derived.Test.YtfjdhjbfingofaaGreatDoorDrawC
import Derived.Laws.BytesArg
namespace Go.Proofs.YtfjdhjbfingofaaGreatDoor
open Go.RowKit
set_option linter.unusedVariables false

theorem byte_conv (w : World) (d : Int) : (convert 22 9 (.slice (some ⟨w.heap.size, 0, none⟩) 1 1)).run Tryz.prog (w.alloc (.cells #[.int .u8 d] 5)) = .ok (.string ⟨#[UInt8.ofNat d.toNat]⟩) (w.alloc (.cells #[.int .u8 d] 5)) := by
  have h := run_convert_bytes_arg (P := Tryz.prog) (w.alloc (.cells #[.int .u8 d] 5)) 22 5 Tryz.underlying22 Tryz.underlying5 w.heap.size 0 1 1 [d] rfl (fun i hi => by
    obtain rfl : i = 0 := by omega
    simp [World.cell?_alloc_new]) 9 Tryz.underlying9
  simpa [strOfNums] using h
set_option maxRecDepth 100000 in
set_option maxHeartbeats 8000000 in
theorem src_l03Bent (m : Nat) (hm : m ≤ 5) (w0 w : World) (b : Nat) (A : Option Addr) (n c k : Nat) (z : List Int) (hk : k < 1099511610000) (ha : ArgInts .u8 w0 A n c z) (hs : Src w0 w b A n c k) :
    Calls Tryz.prog 40 #[.pointer (some ⟨b, 0, none⟩), .int .i64 (m : Int)] w (CDrawn 7 100 w0 w b A n c k) := by
  obtain ⟨i0, hi, hy0, hy1, hy2⟩ := info_parts info_Clay
  have HI := hide hi
  have HY0 := hide hy0
  have HY1 := hide hy1
  have HY2 := hide hy2
  have HA := hide ha
  have hbl := hs.lt
  have hba := hs.base
  have hw0 : w0.heap.size ≤ w.heap.size := hs.2.1.size
  have HS := hide hs
  clear ha hs hi hy0 hy1 hy2
  go_enter Tryz.func40, Tryz.ntmps40
  go_wp2_with fail
  refine (src_l03Draw m hm w0 _ b A n c k z (by omega) HA.out HS.out).mono ?_
  rintro e w1 ⟨zs, g, d, k1, hl1, hnm, rfl, hw1, hk1, hs1, ho1⟩
  obtain ⟨nz, hnz⟩ : ∃ r, zs.length = r := ⟨_, rfl⟩
  rw [hnz] at hw1 hl1 ⊢
  have HNZ := hide hnz
  have HS1 := hide hs1
  have HO1 := hide ho1
  have HW1 := hide hw1.own
  have HN1 := hide hnm
  have hz1 := ho1.size
  have hg1 := own_lt hw1.own
  clear hs1 ho1 hw1 hnz hnm
  by_cases hp : 0 < nz
  case neg =>
    obtain rfl : nz = 0 := by omega
    go_wp2_with fail
    refine (src_one w0 _ b A n c _ z 24 (by omega) (by omega) (by omega) HA.out HS1.out).mono ?_
    rintro e t1 ⟨yes, m1, rfl, hm1, ts1, to1⟩
    have TS1 := hide ts1
    have TO1 := hide (HO1.out.trans to1)
    have TW1 := hide (ow_only HW1.out to1 hbl)
    have tz1 := TO1.out.size
    clear ts1 to1
    cases yes
    · go_wp2
      go_ret
      exact ⟨zs, g, d, m1, by rw [HNZ.out]; omega, HN1.out, by rw [HNZ.out]; rfl, by rw [HNZ.out]; exact own_entire HNZ.out TW1.out, by omega, TS1.out, TO1.out⟩
    · have TSa := hide (TS1.out.alloc (.cells #[] 35))
      go_wp2_with fail
      refine (src_pick w0 _ b A n c m1 z 2 (by omega) (by omega) (by omega) HA.out TSa.out).mono ?_
      rintro e t2 ⟨v, m2, hv0, hv1, rfl, hm2, ts2, to2⟩
      obtain ⟨T, hT⟩ : ∃ T : Nat, 6 + v = (T : Int) := ⟨(6 + v).toNat, by omega⟩
      have hT7 : T ≤ 7 := by omega
      have TO2 := hide ((TO1.out.alloc _).trans to2)
      have TS2 := hide ts2
      have TE := hide (ow_only (own_empty t1 w.heap.size 5 35 tz1) to2 hbl)
      have v9 := Go.IntWalk.i64_in (6 + v) ⟨by omega, by omega⟩
      clear ts2 to2 TSa TW1
      go_wp2
      go_loopw [5, 6] (fun u3 u4 wr => ∃ (q : Nat) (zs2 : List Clay) (g d : Nat), u4 = .int .i64 (q : Int) ∧ u3 = .slice (some ⟨g, 0, none⟩) zs2.length d ∧ zs2.length + q = T ∧ Hid (ShortNames zs2) ∧ Hid (wr.ownsRow w.heap.size 35 5 (.slice (some ⟨g, 0, none⟩) zs2.length d) zs2.length (flat Clay.enc zs2)) ∧ Hid (Src w0 wr b A n c m2) ∧ Hid (Only b w wr)) (fun _ i _ => (intOf i).toNat)
      case atStart => exact ⟨T, [], _, 0, rfl, rfl, by simp, hide (fun z hz => absurd hz (by simp)), TE, TS2, TO2⟩
      case round =>
        obtain ⟨q, zs2, g2, d2, rfl, rfl, hq, HN, HW, HSr, HOr⟩ := hrel
        have hzr := HOr.out.size
        have hg := own_lt HW.out
        by_cases hlt : 0 < q
        · have hcv := byte_conv wr (97 + (zs2.length : Int))
          have hu8 : IntKind.u8.wrap (97 + (zs2.length : Int)) = 97 + (zs2.length : Int) := by rw [IntKind.wrap_u8]; omega
          have v8 := Go.IntWalk.i64_in (97 + (zs2.length : Int)) ⟨by omega, by omega⟩
          go_wp2_with (at_builtin; go_loud (refine wpList_append_lies _ rfl _ _ _ rfl w.heap.size 35 i0 _ 5 48 Tryz.underlying24 HI.out HY0.out HY1.out HY2.out rfl (by omega) _ zs2.length (flat Clay.enc zs2) rfl ((HW.out.alloc _).alloc _) ⟨wr.heap.size + 1, 0, none⟩ 1 1 [.string (⟨#[99]⟩ ++ ⟨#[97 + UInt8.ofNat zs2.length]⟩), .int .i64 0, .int .i64 0, .int .i64 0, .int .i64 0] rfl rfl (clayN_at _ _ _ _ _ _ _ _ (by simp)) clayN_one (by omega) (by unfold maxLen; omega) (by omega) (by simp; omega) (wr.heap.size + 2) (by simp) ?_; intro g3 cap2 w8 hown8 hgrow hat hlt2))
          rw [show flat Clay.enc zs2 ++ [.string (⟨#[99]⟩ ++ ⟨#[97 + UInt8.ofNat zs2.length]⟩), .int .i64 0, .int .i64 0, .int .i64 0, .int .i64 0] = flat Clay.enc (zs2 ++ [⟨⟨#[99]⟩ ++ ⟨#[97 + UInt8.ofNat zs2.length]⟩, 0, 0, 0, 0⟩]) from flat_snoc zs2 ⟨⟨#[99]⟩ ++ ⟨#[97 + UInt8.ofNat zs2.length]⟩, 0, 0, 0, 0⟩] at hown8
          have HW8 := hide hown8
          have HS8 := hide (((HSr.out.alloc _).alloc _).grw hgrow (fun q => by have := (HW.out.lt b q.symm).1; omega) (fun j hj => by have := (HW.out.lt j hj).1; omega))
          have HO8 := hide (((HOr.out.alloc _).alloc _).grw hgrow (fun j hj => by have := (HW.out.lt j hj).1; omega))
          clear hown8 hgrow hat hlt2 hcv hu8 v8
          go_wp2
          go_roundw
          case rel => exact ⟨q - 1, zs2 ++ [⟨⟨#[99]⟩ ++ ⟨#[97 + UInt8.ofNat zs2.length]⟩, 0, 0, 0, 0⟩], g3, cap2, int_eq (by omega), by rw [List.length_append]; rfl, by rw [List.length_append]; simp; omega, hide (fun y hy => by
            rcases List.mem_append.1 hy with h | h
            · exact HN.out y h
            · rw [List.mem_singleton.1 h]; show ByteArray.size (_ ++ _) ≤ 16; rw [ByteArray.size_append]; show 1 + 1 ≤ 16; omega), by rw [List.length_append]; exact HW8, HS8, HO8⟩
          case measure => simp [intOf]; omega
        · obtain rfl : q = 0 := by omega
          go_wp2
          go_ret
          exact ⟨zs2, g2, d2, m2, by omega, HN.out, rfl, own_entire rfl HW.out, by omega, HSr.out, HOr.out⟩
  go_wp2_with fail
  refine (src_one w0 _ b A n c k1 z 10 (by omega) (by omega) (by omega) HA.out HS1.out).mono ?_
  rintro e w2 ⟨yes, k2, rfl, hk2, hs2, ho2⟩
  have HS2 := hide hs2
  have HO2 := hide (HO1.out.trans ho2)
  have HW2 := hide (ow_only HW1.out ho2 hbl)
  clear hs2 ho2
  cases yes
  · go_wp2_with fail
    refine (src_one w0 _ b A n c _ z 24 (by omega) (by omega) (by omega) HA.out HS2.out).mono ?_
    rintro e t1 ⟨yes, m1, rfl, hm1, ts1, to1⟩
    have TS1 := hide ts1
    have TO1 := hide (HO2.out.trans to1)
    have TW1 := hide (ow_only HW2.out to1 hbl)
    have tz1 := TO1.out.size
    clear ts1 to1
    cases yes
    · go_wp2
      go_ret
      exact ⟨zs, g, d, m1, by rw [HNZ.out]; omega, HN1.out, by rw [HNZ.out]; rfl, by rw [HNZ.out]; exact own_entire HNZ.out TW1.out, by omega, TS1.out, TO1.out⟩
    · have TSa := hide (TS1.out.alloc (.cells #[] 35))
      go_wp2_with fail
      refine (src_pick w0 _ b A n c m1 z 2 (by omega) (by omega) (by omega) HA.out TSa.out).mono ?_
      rintro e t2 ⟨v, m2, hv0, hv1, rfl, hm2, ts2, to2⟩
      obtain ⟨T, hT⟩ : ∃ T : Nat, 6 + v = (T : Int) := ⟨(6 + v).toNat, by omega⟩
      have hT7 : T ≤ 7 := by omega
      have TO2 := hide ((TO1.out.alloc _).trans to2)
      have TS2 := hide ts2
      have TE := hide (ow_only (own_empty t1 w.heap.size 5 35 tz1) to2 hbl)
      have v9 := Go.IntWalk.i64_in (6 + v) ⟨by omega, by omega⟩
      clear ts2 to2 TSa TW1
      go_wp2
      go_loopw [5, 6] (fun u3 u4 wr => ∃ (q : Nat) (zs2 : List Clay) (g d : Nat), u4 = .int .i64 (q : Int) ∧ u3 = .slice (some ⟨g, 0, none⟩) zs2.length d ∧ zs2.length + q = T ∧ Hid (ShortNames zs2) ∧ Hid (wr.ownsRow w.heap.size 35 5 (.slice (some ⟨g, 0, none⟩) zs2.length d) zs2.length (flat Clay.enc zs2)) ∧ Hid (Src w0 wr b A n c m2) ∧ Hid (Only b w wr)) (fun _ i _ => (intOf i).toNat)
      case atStart => exact ⟨T, [], _, 0, rfl, rfl, by simp, hide (fun z hz => absurd hz (by simp)), TE, TS2, TO2⟩
      case round =>
        obtain ⟨q, zs2, g2, d2, rfl, rfl, hq, HN, HW, HSr, HOr⟩ := hrel
        have hzr := HOr.out.size
        have hg := own_lt HW.out
        by_cases hlt : 0 < q
        · have hcv := byte_conv wr (97 + (zs2.length : Int))
          have hu8 : IntKind.u8.wrap (97 + (zs2.length : Int)) = 97 + (zs2.length : Int) := by rw [IntKind.wrap_u8]; omega
          have v8 := Go.IntWalk.i64_in (97 + (zs2.length : Int)) ⟨by omega, by omega⟩
          go_wp2_with (at_builtin; go_loud (refine wpList_append_lies _ rfl _ _ _ rfl w.heap.size 35 i0 _ 5 48 Tryz.underlying24 HI.out HY0.out HY1.out HY2.out rfl (by omega) _ zs2.length (flat Clay.enc zs2) rfl ((HW.out.alloc _).alloc _) ⟨wr.heap.size + 1, 0, none⟩ 1 1 [.string (⟨#[99]⟩ ++ ⟨#[97 + UInt8.ofNat zs2.length]⟩), .int .i64 0, .int .i64 0, .int .i64 0, .int .i64 0] rfl rfl (clayN_at _ _ _ _ _ _ _ _ (by simp)) clayN_one (by omega) (by unfold maxLen; omega) (by omega) (by simp; omega) (wr.heap.size + 2) (by simp) ?_; intro g3 cap2 w8 hown8 hgrow hat hlt2))
          rw [show flat Clay.enc zs2 ++ [.string (⟨#[99]⟩ ++ ⟨#[97 + UInt8.ofNat zs2.length]⟩), .int .i64 0, .int .i64 0, .int .i64 0, .int .i64 0] = flat Clay.enc (zs2 ++ [⟨⟨#[99]⟩ ++ ⟨#[97 + UInt8.ofNat zs2.length]⟩, 0, 0, 0, 0⟩]) from flat_snoc zs2 ⟨⟨#[99]⟩ ++ ⟨#[97 + UInt8.ofNat zs2.length]⟩, 0, 0, 0, 0⟩] at hown8
          have HW8 := hide hown8
          have HS8 := hide (((HSr.out.alloc _).alloc _).grw hgrow (fun q => by have := (HW.out.lt b q.symm).1; omega) (fun j hj => by have := (HW.out.lt j hj).1; omega))
          have HO8 := hide (((HOr.out.alloc _).alloc _).grw hgrow (fun j hj => by have := (HW.out.lt j hj).1; omega))
          clear hown8 hgrow hat hlt2 hcv hu8 v8
          go_wp2
          go_roundw
          case rel => exact ⟨q - 1, zs2 ++ [⟨⟨#[99]⟩ ++ ⟨#[97 + UInt8.ofNat zs2.length]⟩, 0, 0, 0, 0⟩], g3, cap2, int_eq (by omega), by rw [List.length_append]; rfl, by rw [List.length_append]; simp; omega, hide (fun y hy => by
            rcases List.mem_append.1 hy with h | h
            · exact HN.out y h
            · rw [List.mem_singleton.1 h]; show ByteArray.size (_ ++ _) ≤ 16; rw [ByteArray.size_append]; show 1 + 1 ≤ 16; omega), by rw [List.length_append]; exact HW8, HS8, HO8⟩
          case measure => simp [intOf]; omega
        · obtain rfl : q = 0 := by omega
          go_wp2
          go_ret
          exact ⟨zs2, g2, d2, m2, by omega, HN.out, rfl, own_entire rfl HW.out, by omega, HSr.out, HOr.out⟩
  · go_wp2_with fail
    refine (src_pick w0 _ b A n c k2 z (nz : Int) (by omega) (by omega) (by omega) HA.out HS2.out).mono ?_
    rintro e t2 ⟨v, m2, hv0, hv1, rfl, hm2, ts2, to2⟩
    obtain ⟨i, rfl⟩ := Int.eq_ofNat_of_zero_le hv0
    have hi : i < nz := by omega
    have TS2 := hide ts2
    have TW2 := hide (ow_only HW2.out to2 hbl)
    have TO2 := hide (HO2.out.trans to2)
    obtain ⟨y0, y1, y2, y3, y4, c0, c1, c2, c3, c4, f0, f1, f2, f3, f4⟩ := own_at_5 TW2.out hi
    have CELLS := hide (And.intro (And.intro c0 (And.intro c1 (And.intro c2 (And.intro c3 c4)))) (And.intro f0 (And.intro f1 (And.intro f2 (And.intro f3 f4)))))
    have hgl2 := (own_lt TW2.out).2
    clear ts2 to2 c0 c1 c2 c3 c4 f0 f1 f2 f3 f4
    go_wp2_with fail
    refine (src_l03Spoil w0 _ b A n c m2 z g (i * 5) y0 y1 y2 y3 y4 hgl2 (by omega) CELLS.out.1.1 CELLS.out.1.2.1 CELLS.out.1.2.2.1 CELLS.out.1.2.2.2.1 CELLS.out.1.2.2.2.2 CELLS.out.2.1 CELLS.out.2.2.1 CELLS.out.2.2.2.1 CELLS.out.2.2.2.2.1 CELLS.out.2.2.2.2.2 (by omega) HA.out TS2.out).mono ?_
    rintro e t3 ⟨j, u, m3, t4, hj, rfl, hm3, ts4, to4, rfl⟩
    obtain ⟨y, hsn, TW5, TG5⟩ := own_field_clay hj (ow_only TW2.out to4 hbl) HNZ.out hi HN1.out
    have HN5 := hide hsn
    have TW5 := hide TW5
    have TS5 := hide (ts4.set_ (p := ⟨g, i * 5 + j, none⟩) (by show g ≠ b; omega) (by show w0.heap.size ≤ g; omega) u)
    have TO5 := hide ((TO2.out.trans to4).set_ (p := ⟨g, i * 5 + j, none⟩) (.inr (by show w.heap.size ≤ g; omega)) u)
    have HLS := hide (show (zs.set i y).length = nz from by rw [List.length_set]; exact HNZ.out)
    clear TG5 ts4 to4 hsn hj
    go_wp2_with fail
    refine (src_one w0 _ b A n c _ z 24 (by omega) (by omega) (by omega) HA.out TS5.out).mono ?_
    rintro e t1 ⟨yes, m1, rfl, hm1, ts1, to1⟩
    have TS1 := hide ts1
    have TO1 := hide (TO5.out.trans to1)
    have TW1 := hide (ow_only TW5.out to1 hbl)
    have tz1 := TO1.out.size
    clear ts1 to1
    cases yes
    · go_wp2
      go_ret
      exact ⟨zs.set i y, g, d, m1, by rw [HLS.out]; omega, HN5.out, by rw [HLS.out]; rfl, by rw [HLS.out]; exact own_entire HLS.out TW1.out, by omega, TS1.out, TO1.out⟩
    · have TSa := hide (TS1.out.alloc (.cells #[] 35))
      go_wp2_with fail
      refine (src_pick w0 _ b A n c m1 z 2 (by omega) (by omega) (by omega) HA.out TSa.out).mono ?_
      rintro e t2 ⟨v, m2, hv0, hv1, rfl, hm2, ts2, to2⟩
      obtain ⟨T, hT⟩ : ∃ T : Nat, 6 + v = (T : Int) := ⟨(6 + v).toNat, by omega⟩
      have hT7 : T ≤ 7 := by omega
      have TO2 := hide ((TO1.out.alloc _).trans to2)
      have TS2 := hide ts2
      have TE := hide (ow_only (own_empty t1 w.heap.size 5 35 tz1) to2 hbl)
      have v9 := Go.IntWalk.i64_in (6 + v) ⟨by omega, by omega⟩
      clear ts2 to2 TSa TW1
      go_wp2
      go_loopw [5, 6] (fun u3 u4 wr => ∃ (q : Nat) (zs2 : List Clay) (g d : Nat), u4 = .int .i64 (q : Int) ∧ u3 = .slice (some ⟨g, 0, none⟩) zs2.length d ∧ zs2.length + q = T ∧ Hid (ShortNames zs2) ∧ Hid (wr.ownsRow w.heap.size 35 5 (.slice (some ⟨g, 0, none⟩) zs2.length d) zs2.length (flat Clay.enc zs2)) ∧ Hid (Src w0 wr b A n c m2) ∧ Hid (Only b w wr)) (fun _ i _ => (intOf i).toNat)
      case atStart => exact ⟨T, [], _, 0, rfl, rfl, by simp, hide (fun z hz => absurd hz (by simp)), TE, TS2, TO2⟩
      case round =>
        obtain ⟨q, zs2, g2, d2, rfl, rfl, hq, HN, HW, HSr, HOr⟩ := hrel
        have hzr := HOr.out.size
        have hg := own_lt HW.out
        by_cases hlt : 0 < q
        · have hcv := byte_conv wr (97 + (zs2.length : Int))
          have hu8 : IntKind.u8.wrap (97 + (zs2.length : Int)) = 97 + (zs2.length : Int) := by rw [IntKind.wrap_u8]; omega
          have v8 := Go.IntWalk.i64_in (97 + (zs2.length : Int)) ⟨by omega, by omega⟩
          go_wp2_with (at_builtin; go_loud (refine wpList_append_lies _ rfl _ _ _ rfl w.heap.size 35 i0 _ 5 48 Tryz.underlying24 HI.out HY0.out HY1.out HY2.out rfl (by omega) _ zs2.length (flat Clay.enc zs2) rfl ((HW.out.alloc _).alloc _) ⟨wr.heap.size + 1, 0, none⟩ 1 1 [.string (⟨#[99]⟩ ++ ⟨#[97 + UInt8.ofNat zs2.length]⟩), .int .i64 0, .int .i64 0, .int .i64 0, .int .i64 0] rfl rfl (clayN_at _ _ _ _ _ _ _ _ (by simp)) clayN_one (by omega) (by unfold maxLen; omega) (by omega) (by simp; omega) (wr.heap.size + 2) (by simp) ?_; intro g3 cap2 w8 hown8 hgrow hat hlt2))
          rw [show flat Clay.enc zs2 ++ [.string (⟨#[99]⟩ ++ ⟨#[97 + UInt8.ofNat zs2.length]⟩), .int .i64 0, .int .i64 0, .int .i64 0, .int .i64 0] = flat Clay.enc (zs2 ++ [⟨⟨#[99]⟩ ++ ⟨#[97 + UInt8.ofNat zs2.length]⟩, 0, 0, 0, 0⟩]) from flat_snoc zs2 ⟨⟨#[99]⟩ ++ ⟨#[97 + UInt8.ofNat zs2.length]⟩, 0, 0, 0, 0⟩] at hown8
          have HW8 := hide hown8
          have HS8 := hide (((HSr.out.alloc _).alloc _).grw hgrow (fun q => by have := (HW.out.lt b q.symm).1; omega) (fun j hj => by have := (HW.out.lt j hj).1; omega))
          have HO8 := hide (((HOr.out.alloc _).alloc _).grw hgrow (fun j hj => by have := (HW.out.lt j hj).1; omega))
          clear hown8 hgrow hat hlt2 hcv hu8 v8
          go_wp2
          go_roundw
          case rel => exact ⟨q - 1, zs2 ++ [⟨⟨#[99]⟩ ++ ⟨#[97 + UInt8.ofNat zs2.length]⟩, 0, 0, 0, 0⟩], g3, cap2, int_eq (by omega), by rw [List.length_append]; rfl, by rw [List.length_append]; simp; omega, hide (fun y hy => by
            rcases List.mem_append.1 hy with h | h
            · exact HN.out y h
            · rw [List.mem_singleton.1 h]; show ByteArray.size (_ ++ _) ≤ 16; rw [ByteArray.size_append]; show 1 + 1 ≤ 16; omega), by rw [List.length_append]; exact HW8, HS8, HO8⟩
          case measure => simp [intOf]; omega
        · obtain rfl : q = 0 := by omega
          go_wp2
          go_ret
          exact ⟨zs2, g2, d2, m2, by omega, HN.out, rfl, own_entire rfl HW.out, by omega, HSr.out, HOr.out⟩
end Go.Proofs.YtfjdhjbfingofaaGreatDoor
