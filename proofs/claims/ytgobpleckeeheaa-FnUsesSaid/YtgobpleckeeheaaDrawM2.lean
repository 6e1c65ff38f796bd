/-
  What is proved: lists of moulds as the reference draws them, seldom valid ones too; a shrinkage. Conditions: as for the source.
-/
import Derived.Test.YtgobpleckeeheaaDrawM
import Derived.Deep.AppendLies
import Derived.Test.YtgobpleckeeheaaOwnSet
namespace Go.Proofs.Ytgobpleckeeheaa
open Go.RowKit
set_option linter.unusedVariables false

/-- What drawn moulds leave: some list of at most m, in memory of its own. -/
def MDrawn (m q : Nat) (w0 w : World) (b : Nat) (A : Option Addr) (n c k : Nat) (e : Ending) (w' : World) : Prop :=
  ∃ (zs : List Mould) (g d k' : Nat), zs.length ≤ m ∧ e = .returned (.slice (some ⟨g, 0, none⟩) zs.length d) ∧ Own 68 4 Mould.enc w' w.heap.size w'.heap.size (some ⟨g, 0, none⟩) zs.length d zs ∧ k' ≤ k + q ∧ Src w0 w' b A n c k' ∧ Only b w w'
theorem own_whole {α : Type} {t : TypeId} {k : Nat} {enc : α → List Value} {w : World} {lo g n c : Nat} {xs : List α} (hl : xs.length = n) (h : w.ownsRow lo t k (.slice (some ⟨g, 0, none⟩) n c) n (flat enc xs)) : Own t k enc w lo w.heap.size (some ⟨g, 0, none⟩) n c xs :=
  ⟨hl, h, fun a ha => by injection ha with ha; subst ha; exact (own_lt h).2, Nat.le_refl _⟩
set_option maxRecDepth 100000 in
set_option maxHeartbeats 2000000 in
theorem src_l05Draw (w0 w : World) (b : Nat) (A : Option Addr) (n c k : Nat) (z : List Int) (hk : k < 1099511620000) (ha : ArgInts .u8 w0 A n c z) (hs : Src w0 w b A n c k) :
    Calls Try.prog 86 #[.pointer (some ⟨b, 0, none⟩)] w (MDrawn 6 60 w0 w b A n c k) := by
  obtain ⟨i0, hi, hy0, hy1, hy2⟩ := info_parts info_Mould
  have HI := hide hi
  have HY0 := hide hy0
  have HY1 := hide hy1
  have HY2 := hide hy2
  have HA := hide ha
  have hbl := hs.lt
  have hba := hs.base
  have hw0 : w0.heap.size ≤ w.heap.size := hs.2.1.size
  have HS := hide hs
  clear ha hs hi hy0 hy1 hy2
  have HSa := hide (HS.out.alloc (.cells #[] 68))
  go_enter Try.func86, Try.ntmps86
  go_wp2_with fail
  refine (src_pick w0 _ b A n c k z 7 (by omega) (by omega) (by omega) HA.out HSa.out).mono ?_
  rintro e w1 ⟨v, k1, hv0, hv1, rfl, hk1, hs1, ho1⟩
  obtain ⟨T, rfl⟩ := Int.eq_ofNat_of_zero_le hv0
  have HO1 := hide (((Only.refl b w).alloc _).trans ho1)
  have HS1 := hide hs1
  have HE := hide (owns_only (own_empty w w.heap.size 4 68 (Nat.le_refl _)) ho1 (by omega))
  clear hs1 ho1
  go_wp2
  go_loopw [3, 4] (fun u3 u4 wr => ∃ (q k' : Nat) (zs : List Mould) (g d : Nat), u4 = .int .i64 (q : Int) ∧ u3 = .slice (some ⟨g, 0, none⟩) zs.length d ∧ zs.length + q = T ∧ k' ≤ k1 + 8 * zs.length ∧ Hid (wr.ownsRow w.heap.size 68 4 (.slice (some ⟨g, 0, none⟩) zs.length d) zs.length (flat Mould.enc zs)) ∧ Hid (Src w0 wr b A n c k') ∧ Hid (Only b w wr)) (fun _ i _ => (intOf i).toNat)
  case atStart => exact ⟨T, k1, [], _, 0, rfl, rfl, by simp, by simp, HE, HS1, HO1⟩
  case round =>
    obtain ⟨q, k', zs, g, d, rfl, rfl, hq, hk', HW, HSr, HOr⟩ := hrel
    have hzr := HOr.out.size
    have hg := own_lt HW.out
    by_cases hlt : 0 < q
    · go_wp2_with fail
      refine (src_l05New w0 _ b A n c k' z (by omega) HA.out HSr.out).mono ?_
      rintro e w7 ⟨v1, v2, v3, v4, k7, hv, rfl, hk7, hs7, ho7⟩
      have HW7 := hide (owns_only HW.out ho7 (by omega))
      have HS7 := hide hs7
      have HO7 := hide (HOr.out.trans ho7)
      have hz7 := HO7.out.size
      clear hs7 ho7 hv
      go_wp2_with (at_builtin; go_loud (refine wpList_append_lies _ rfl _ _ _ rfl w.heap.size 68 i0 _ 4 32 Try.underlying50 HI.out HY0.out HY1.out HY2.out rfl (by omega) _ zs.length (flat Mould.enc zs) rfl (HW7.out.alloc _) ⟨w7.heap.size, 0, none⟩ 1 1 [.int .i64 (200 + v1), .int .i64 (100 + v2), .int .i64 (60 + v3), .int .i64 (10 * v4)] rfl rfl (mould_new_at _ _ _ _ _ _ _ rfl) mould_one (by omega) (by unfold maxLen; omega) (by omega) (by simp; omega) (w7.heap.size + 1) (by simp) ?_; intro g2 cap2 w8 hown8 hgrow hat hlt2))
      rw [show flat Mould.enc zs ++ [Value.int .i64 (200 + v1), .int .i64 (100 + v2), .int .i64 (60 + v3), .int .i64 (10 * v4)] = flat Mould.enc (zs ++ [⟨200 + v1, 100 + v2, 60 + v3, 10 * v4⟩]) from flat_push zs ⟨200 + v1, 100 + v2, 60 + v3, 10 * v4⟩] at hown8
      have HW8 := hide hown8
      have HS8 := hide (src_grown (HS7.out.alloc _) hgrow (fun q => by have := (HW7.out.lt b q.symm).1; omega) (fun j hj => by have := (HW7.out.lt j hj).1; omega))
      have HO8 := hide (only_grown (HO7.out.alloc _) hgrow (fun j hj => (HW7.out.lt j hj).1))
      clear hown8 hgrow hat hlt2
      go_wp2
      go_roundw
      case rel => exact ⟨q - 1, k7, zs ++ [⟨200 + v1, 100 + v2, 60 + v3, 10 * v4⟩], g2, cap2, int_eq (by omega), by rw [List.length_append]; rfl, by rw [List.length_append]; simp; omega, by rw [List.length_append]; simp; omega, by rw [List.length_append]; exact HW8, HS8, HO8⟩
      case measure => simp [intOf]; omega
    · obtain rfl : q = 0 := by omega
      go_wp2
      go_ret
      exact ⟨zs, g, d, k', by omega, rfl, own_whole rfl HW.out, by omega, HSr.out, HOr.out⟩
set_option maxRecDepth 100000 in
set_option maxHeartbeats 4000000 in
theorem src_l05Bent (w0 w : World) (b : Nat) (A : Option Addr) (n c k : Nat) (z : List Int) (hk : k < 1099511610000) (ha : ArgInts .u8 w0 A n c z) (hs : Src w0 w b A n c k) :
    Calls Try.prog 73 #[.pointer (some ⟨b, 0, none⟩)] w (MDrawn 21 300 w0 w b A n c k) := by
  obtain ⟨i0, hi, hy0, hy1, hy2⟩ := info_parts info_Mould
  have HI := hide hi
  have HY0 := hide hy0
  have HY1 := hide hy1
  have HY2 := hide hy2
  have HA := hide ha
  have hbl := hs.lt
  have hba := hs.base
  have hw0 : w0.heap.size ≤ w.heap.size := hs.2.1.size
  have HS := hide hs
  clear ha hs hi hy0 hy1 hy2
  go_enter Try.func73, Try.ntmps73
  go_wp2_with fail
  refine (src_l05Draw w0 _ b A n c k z (by omega) HA.out HS.out).mono ?_
  rintro e w1 ⟨zs, g, d, k1, hl1, rfl, hw1, hk1, hs1, ho1⟩
  have HS1 := hide hs1
  have HO1 := hide ho1
  have HW1 := hide hw1.own
  clear hs1 ho1 hw1
  go_wp2_with fail
  refine (src_one w0 _ b A n c k1 z 24 (by omega) (by omega) (by omega) HA.out HS1.out).mono ?_
  rintro e w2 ⟨yes, k2, rfl, hk2, hs2, ho2⟩
  have HS2 := hide hs2
  have HO2 := hide (HO1.out.trans ho2)
  have HW2 := hide (owns_only HW1.out ho2 hbl)
  have hz2 := HO2.out.size
  clear hs2 ho2
  cases yes
  · obtain ⟨nz, hnz⟩ : ∃ r, zs.length = r := ⟨_, rfl⟩
    rw [hnz] at HW2 ⊢
    have HNZ := hide hnz
    have hnz21 : nz ≤ 21 := by omega
    clear hnz
    have hgl := own_lt HW2.out
    by_cases hp : 0 < nz
    · go_wp2_with fail
      refine (src_one w0 _ b A n c _ z 8 (by omega) (by omega) (by omega) HA.out HS2.out).mono ?_
      rintro e t1 ⟨yes, m1, rfl, hm1, ts1, to1⟩
      have TS1 := hide ts1
      have TW1 := hide (owns_only HW2.out to1 (by omega))
      have TO1 := hide (HO2.out.trans to1)
      clear ts1 to1
      cases yes
      · go_wp2
        go_ret
        exact ⟨zs, g, d, m1, by rw [HNZ.out]; exact hnz21, by rw [HNZ.out]; rfl, by rw [HNZ.out]; exact own_whole HNZ.out TW1.out, by omega, TS1.out, TO1.out⟩
      · go_wp2_with fail
        refine (src_pick w0 _ b A n c m1 z (nz : Int) (by omega) (by omega) (by omega) HA.out TS1.out).mono ?_
        rintro e t2 ⟨v, m2, hv0, hv1, rfl, hm2, ts2, to2⟩
        obtain ⟨i, rfl⟩ := Int.eq_ofNat_of_zero_le hv0
        have hi : i < nz := by omega
        have TS2 := hide ts2
        have TW2 := hide (owns_only TW1.out to2 (by omega))
        have TO2 := hide (TO1.out.trans to2)
        obtain ⟨y0, y1, y2, y3, c0, c1, c2, c3, f0, f1, f2, f3⟩ := own_at_4 TW2.out hi
        have CELLS := hide (And.intro (And.intro c0 (And.intro c1 (And.intro c2 c3))) (And.intro f0 (And.intro f1 (And.intro f2 f3))))
        have hgl2 := (own_lt TW2.out).2
        clear ts2 to2 c0 c1 c2 c3 f0 f1 f2 f3
        go_wp2_with fail
        refine (src_l05Spoil w0 _ b A n c m2 z g (i * 4) y0 y1 y2 y3 hgl2 (by omega) CELLS.out.1.1 CELLS.out.1.2.1 CELLS.out.1.2.2.1 CELLS.out.1.2.2.2 CELLS.out.2.1 CELLS.out.2.2.1 CELLS.out.2.2.2.1 CELLS.out.2.2.2.2 (by omega) HA.out TS2.out).mono ?_
        rintro e t3 ⟨j, v, m3, t4, hj, rfl, hm3, ts4, to4, rfl⟩
        obtain ⟨y, TW5, TG5⟩ := own_field_mould v (owns_only TW2.out to4 (by omega)) HNZ.out hi hj
        have TW5 := hide TW5
        have TS5 := hide (ts4.set_ (p := ⟨g, i * 4 + j, none⟩) (by show g ≠ b; omega) (by show w0.heap.size ≤ g; omega) (.int .i64 v))
        have TO5 := hide ((TO2.out.trans to4).set_ (p := ⟨g, i * 4 + j, none⟩) (.inr (by show w.heap.size ≤ g; omega)) (.int .i64 v))
        clear TG5 ts4 to4
        have hls : (zs.set i y).length = nz := by rw [List.length_set]; exact HNZ.out
        have HLS := hide hls
        clear hls
        go_wp2
        go_ret
        exact ⟨zs.set i y, g, d, m3, by rw [HLS.out]; exact hnz21, by rw [HLS.out]; rfl, by rw [HLS.out]; exact own_whole HLS.out TW5.out, by omega, TS5.out, TO5.out⟩
    · obtain rfl : nz = 0 := by omega
      go_wp2
      go_ret
      exact ⟨zs, g, d, _, by rw [HNZ.out]; omega, by rw [HNZ.out]; rfl, by rw [HNZ.out]; exact own_whole HNZ.out HW2.out, by omega, HS2.out, HO2.out⟩
  · clear HW2 HW1 hl1
    have HSa := hide (HS2.out.alloc (.cells #[] 68))
    go_wp2_with fail
    refine (src_pick w0 _ b A n c k2 z 2 (by omega) (by omega) (by omega) HA.out HSa.out).mono ?_
    rintro e w3 ⟨v, k3, hv0, hv1, rfl, hk3, hs3, ho3⟩
    obtain ⟨T, hT⟩ : ∃ T : Nat, 20 + v = (T : Int) := ⟨(20 + v).toNat, by omega⟩
    have HO3 := hide ((HO2.out.alloc _).trans ho3)
    have HS3 := hide hs3
    have HE := hide (owns_only (own_empty w2 w.heap.size 4 68 (by omega)) ho3 (by omega))
    clear hs3 ho3
    have v9 := Go.IntWalk.i64_in (20 + v) ⟨by omega, by omega⟩
    go_wp2
    go_loopw [3, 4] (fun u3 u4 wr => ∃ (q k' : Nat) (zs : List Mould) (g d : Nat), u4 = .int .i64 (q : Int) ∧ u3 = .slice (some ⟨g, 0, none⟩) zs.length d ∧ zs.length + q = T ∧ k' ≤ k3 + 8 * zs.length ∧ Hid (wr.ownsRow w.heap.size 68 4 (.slice (some ⟨g, 0, none⟩) zs.length d) zs.length (flat Mould.enc zs)) ∧ Hid (Src w0 wr b A n c k') ∧ Hid (Only b w wr)) (fun _ i _ => (intOf i).toNat)
    case atStart => exact ⟨T, k3, [], _, 0, rfl, rfl, by simp, by simp, HE, HS3, HO3⟩
    case round =>
      obtain ⟨q, k', zs, g, d, rfl, rfl, hq, hk', HW, HSr, HOr⟩ := hrel
      have hzr := HOr.out.size
      have hg := own_lt HW.out
      by_cases hlt : 0 < q
      · go_wp2_with fail
        refine (src_l05New w0 _ b A n c k' z (by omega) HA.out HSr.out).mono ?_
        rintro e w7 ⟨v1, v2, v3, v4, k7, hv, rfl, hk7, hs7, ho7⟩
        have HW7 := hide (owns_only HW.out ho7 (by omega))
        have HS7 := hide hs7
        have HO7 := hide (HOr.out.trans ho7)
        have hz7 := HO7.out.size
        clear hs7 ho7 hv
        go_wp2_with (at_builtin; go_loud (refine wpList_append_lies _ rfl _ _ _ rfl w.heap.size 68 i0 _ 4 32 Try.underlying50 HI.out HY0.out HY1.out HY2.out rfl (by omega) _ zs.length (flat Mould.enc zs) rfl (HW7.out.alloc _) ⟨w7.heap.size, 0, none⟩ 1 1 [.int .i64 (200 + v1), .int .i64 (100 + v2), .int .i64 (60 + v3), .int .i64 (10 * v4)] rfl rfl (mould_new_at _ _ _ _ _ _ _ rfl) mould_one (by omega) (by unfold maxLen; omega) (by omega) (by simp; omega) (w7.heap.size + 1) (by simp) ?_; intro g2 cap2 w8 hown8 hgrow hat hlt2))
        rw [show flat Mould.enc zs ++ [Value.int .i64 (200 + v1), .int .i64 (100 + v2), .int .i64 (60 + v3), .int .i64 (10 * v4)] = flat Mould.enc (zs ++ [⟨200 + v1, 100 + v2, 60 + v3, 10 * v4⟩]) from flat_push zs ⟨200 + v1, 100 + v2, 60 + v3, 10 * v4⟩] at hown8
        have HW8 := hide hown8
        have HS8 := hide (src_grown (HS7.out.alloc _) hgrow (fun q => by have := (HW7.out.lt b q.symm).1; omega) (fun j hj => by have := (HW7.out.lt j hj).1; omega))
        have HO8 := hide (only_grown (HO7.out.alloc _) hgrow (fun j hj => (HW7.out.lt j hj).1))
        clear hown8 hgrow hat hlt2
        go_wp2
        go_roundw
        case rel => exact ⟨q - 1, k7, zs ++ [⟨200 + v1, 100 + v2, 60 + v3, 10 * v4⟩], g2, cap2, int_eq (by omega), by rw [List.length_append]; rfl, by rw [List.length_append]; simp; omega, by rw [List.length_append]; simp; omega, by rw [List.length_append]; exact HW8, HS8, HO8⟩
        case measure => simp [intOf]; omega
      · obtain rfl : q = 0 := by omega
        obtain ⟨nz, hnz⟩ : ∃ r, zs.length = r := ⟨_, rfl⟩
        rw [hnz] at HW ⊢
        have HNZ := hide hnz
        have hnz21 : nz ≤ 21 := by omega
        clear hnz
        have hgl := own_lt HW.out
        by_cases hp : 0 < nz
        · go_wp2_with fail
          refine (src_one w0 _ b A n c _ z 8 (by omega) (by omega) (by omega) HA.out HSr.out).mono ?_
          rintro e t1 ⟨yes, m1, rfl, hm1, ts1, to1⟩
          have TS1 := hide ts1
          have TW1 := hide (owns_only HW.out to1 (by omega))
          have TO1 := hide (HOr.out.trans to1)
          clear ts1 to1
          cases yes
          · go_wp2
            go_ret
            exact ⟨zs, g, d, m1, by rw [HNZ.out]; exact hnz21, by rw [HNZ.out]; rfl, by rw [HNZ.out]; exact own_whole HNZ.out TW1.out, by omega, TS1.out, TO1.out⟩
          · go_wp2_with fail
            refine (src_pick w0 _ b A n c m1 z (nz : Int) (by omega) (by omega) (by omega) HA.out TS1.out).mono ?_
            rintro e t2 ⟨v, m2, hv0, hv1, rfl, hm2, ts2, to2⟩
            obtain ⟨i, rfl⟩ := Int.eq_ofNat_of_zero_le hv0
            have hi : i < nz := by omega
            have TS2 := hide ts2
            have TW2 := hide (owns_only TW1.out to2 (by omega))
            have TO2 := hide (TO1.out.trans to2)
            obtain ⟨y0, y1, y2, y3, c0, c1, c2, c3, f0, f1, f2, f3⟩ := own_at_4 TW2.out hi
            have CELLS := hide (And.intro (And.intro c0 (And.intro c1 (And.intro c2 c3))) (And.intro f0 (And.intro f1 (And.intro f2 f3))))
            have hgl2 := (own_lt TW2.out).2
            clear ts2 to2 c0 c1 c2 c3 f0 f1 f2 f3
            go_wp2_with fail
            refine (src_l05Spoil w0 _ b A n c m2 z g (i * 4) y0 y1 y2 y3 hgl2 (by omega) CELLS.out.1.1 CELLS.out.1.2.1 CELLS.out.1.2.2.1 CELLS.out.1.2.2.2 CELLS.out.2.1 CELLS.out.2.2.1 CELLS.out.2.2.2.1 CELLS.out.2.2.2.2 (by omega) HA.out TS2.out).mono ?_
            rintro e t3 ⟨j, v, m3, t4, hj, rfl, hm3, ts4, to4, rfl⟩
            obtain ⟨y, TW5, TG5⟩ := own_field_mould v (owns_only TW2.out to4 (by omega)) HNZ.out hi hj
            have TW5 := hide TW5
            have TS5 := hide (ts4.set_ (p := ⟨g, i * 4 + j, none⟩) (by show g ≠ b; omega) (by show w0.heap.size ≤ g; omega) (.int .i64 v))
            have TO5 := hide ((TO2.out.trans to4).set_ (p := ⟨g, i * 4 + j, none⟩) (.inr (by show w.heap.size ≤ g; omega)) (.int .i64 v))
            clear TG5 ts4 to4
            have hls : (zs.set i y).length = nz := by rw [List.length_set]; exact HNZ.out
            have HLS := hide hls
            clear hls
            go_wp2
            go_ret
            exact ⟨zs.set i y, g, d, m3, by rw [HLS.out]; exact hnz21, by rw [HLS.out]; rfl, by rw [HLS.out]; exact own_whole HLS.out TW5.out, by omega, TS5.out, TO5.out⟩
        · obtain rfl : nz = 0 := by omega
          go_wp2
          go_ret
          exact ⟨zs, g, d, _, by rw [HNZ.out]; omega, by rw [HNZ.out]; rfl, by rw [HNZ.out]; exact own_whole HNZ.out HW.out, by omega, HSr.out, HOr.out⟩
/-- Some whole number. -/
def IDrawn (q : Nat) (w0 w : World) (b : Nat) (A : Option Addr) (n c k : Nat) (e : Ending) (w' : World) : Prop :=
  ∃ (v : Int) (k' : Nat), e = .returned (.int .i64 v) ∧ k' ≤ k + q ∧ Src w0 w' b A n c k' ∧ Only b w w'
set_option maxHeartbeats 1000000 in
theorem src_l05Shrink (w0 w : World) (b : Nat) (A : Option Addr) (n c k : Nat) (z : List Int) (hk : k < 1099511620000) (ha : ArgInts .u8 w0 A n c z) (hs : Src w0 w b A n c k) :
    Calls Try.prog 76 #[.pointer (some ⟨b, 0, none⟩)] w (IDrawn 4 w0 w b A n c k) := by
  have HA := hide ha
  have HS := hide hs
  clear ha hs
  go_enter Try.func76, Try.ntmps76
  go_wp2_with fail
  refine (src_one w0 _ b A n c k z 10 (by omega) (by omega) (by omega) HA.out HS.out).mono ?_
  rintro e w1 ⟨yes, k1, rfl, hk1, hs1, ho1⟩
  have HS1 := hide hs1
  have HO1 := hide ho1
  clear hs1 ho1
  cases yes
  · go_wp2_with fail
    refine (src_pick w0 _ b A n c k1 z 120 (by omega) (by omega) (by omega) HA.out HS1.out).mono ?_
    rintro e w2 ⟨v, k2, hv0, hv1, rfl, hk2, hs2, ho2⟩
    have HS2 := hide hs2
    have HO2 := hide (HO1.out.trans ho2)
    clear hs2 ho2
    go_wp2
    go_ret
    exact ⟨_, k2, rfl, by omega, HS2.out, HO2.out⟩
  · go_wp2_with fail
    refine (src_amongL [-1, 0, 200, 201] _ _ rfl w0 _ b A n c k1 z 4 rfl (by omega) (by omega) (by omega) HA.out HS1.out _ _ rfl).mono ?_
    rintro e w2 ⟨v, k2, hv, rfl, hk2, hs2, ho2⟩
    have HS2 := hide hs2
    have HO2 := hide (HO1.out.trans ho2)
    clear hs2 ho2 hv
    go_wp2
    go_ret
    exact ⟨_, k2, rfl, by omega, HS2.out, HO2.out⟩
end Go.Proofs.Ytgobpleckeeheaa
