/-
  What is proved: the bond that the reference draws is valid, lies in memory of its own, and nothing but the source is changed. Conditions: as for the source.
-/
import Derived.Test.YtgobpleckeeheaaDoorDrawB2
import Derived.Test.YtgobpleckeeheaaDoorWord
namespace Go.Proofs.YtgobpleckeeheaaDoor
open Go.RowKit Go.PlainAid
set_option linter.unusedVariables false

/-- What l04Draw leaves: a valid bond. -/
def BondDrawn (w0 w : World) (b : Nat) (A : Option Addr) (n c k : Nat) (e : Ending) (w' : World) : Prop :=
  ∃ (s : ByteArray) (zs : List Course) (B : Option Addr) (d k' : Nat), bondOk s zs = true ∧ e = .returned (.agg #[.string s, .slice B zs.length d]) ∧ Own 33 2 Course.enc w' w.heap.size w'.heap.size B zs.length d zs ∧ k' ≤ k + 200 ∧ Src w0 w' b A n c k' ∧ Only b w w'
theorem two_cells {w : World} {g : Nat} {t : TypeId} {x0 x1 : Value} (h : Blk w g t #[x0, x1]) : w.cell? ⟨g, 0, none⟩ = some x0 ∧ w.cell? ⟨g, 1, none⟩ = some x1 ∧ w.frozen? ⟨g, 0, none⟩ = false ∧ w.frozen? ⟨g, 1, none⟩ = false := ⟨h.cell 0, h.cell 1, h.frozen 0, h.frozen 1⟩
theorem Under.only {gb b : Nat} {nm : ByteArray} {t : TypeId} {xs : List Course} {w w' : World} {v : Value} (h : Under gb nm t xs w v) (ho : Only b w w') (hb : b < gb) : Under gb nm t xs w' v :=
  ⟨((ocell ho).1 gb 0 h.lt (by omega)).trans h.c0, ((ocell ho).1 gb 1 h.lt (by omega)).trans h.c1, ((ocell ho).2 gb 0 h.lt (by omega)).trans h.f0, ((ocell ho).2 gb 1 h.lt (by omega)).trans h.f1, Nat.lt_of_lt_of_le h.lt ho.size, own_only h.own ho (by omega)⟩
theorem Blk.grown {w w' : World} {g : Nat} {t : TypeId} {cs : Array Value} {row : Option Nat} (h : Blk w g t cs) (hg : w.grownBy w' row) (hne : some g ≠ row) : Blk w' g t cs := (hg.block g h.lt hne).trans h
set_option maxRecDepth 100000 in
set_option maxHeartbeats 2000000 in
theorem src_l04Draw (w0 w : World) (b : Nat) (A : Option Addr) (n c k : Nat) (z : List Int) (hk : k < 1099511610000) (ha : ArgInts .u8 w0 A n c z) (hs : Src w0 w b A n c k) :
    Calls Tryd.prog 11 #[.pointer (some ⟨b, 0, none⟩)] w (BondDrawn w0 w b A n c k) := by
  obtain ⟨i0, hi, hy0, hy1, hy2⟩ := info_parts info_Course
  have HI := hide hi
  have HY0 := hide hy0
  have HY1 := hide hy1
  have HY2 := hide hy2
  have HA := hide ha
  have hbl := hs.lt
  have hba := hs.base
  have HS := hide (hs.alloc (.cells #[.string ⟨#[]⟩, .slice none 0 0] 26))
  have HR := hide (Blk.new w 26 #[.string ⟨#[]⟩, .slice none 0 0])
  have hn0 : w.heap.size ≠ b := by omega
  have hw0 : w0.heap.size ≤ w.heap.size := by omega
  clear ha hs hi hy0 hy1 hy2
  go_enter Tryd.func11, Tryd.ntmps11
  go_wp2_with fail
  refine (src_one w0 _ b A n c k z _ (by omega) (by omega) (by omega) HA.out HS.out).mono ?_
  rintro e w1 ⟨yes, k1, rfl, hk1, hs1, ho1⟩
  have hz1 : w.heap.size < w1.heap.size := by have := ho1.size; simp at this; omega
  have HO1 := hide (((Only.refl b w).alloc _).trans ho1)
  have HR1 := hide (ho1.blk HR.out hn0)
  have HS1 := hide hs1
  clear hs1 ho1 HS HR
  cases yes with
  | true =>
    go_wp2_with fail
    refine (spec_library2 _).mono ?_
    rintro e w2 ⟨rfl, hr2, hb2⟩
    have hz2 : w1.heap.size ≤ w2.heap.size := hb2.size
    have HS2 := hide (HS1.out.keep hb2)
    have HO2 := hide (HO1.out.trans (Only.of_below hb2))
    have HR2 := hide (HR1.out.below hb2 hz1)
    have HL2 := hide hr2
    have hlt2 : w1.heap.size < w2.heap.size := by obtain ⟨b9, o9, e9, h9, -⟩ := hr2 (by decide); injection e9 with e9; injection e9 with e9; omega
    clear hr2 hb2 HS1 HO1 HR1
    go_wp2_with fail
    refine (src_pick w0 _ b A n c k1 z 5 (by omega) (by omega) (by omega) HA.out HS2.out).mono ?_
    rintro e w3 ⟨v, k3, hv0, hv1, rfl, hk3, hs3, ho3⟩
    obtain ⟨i, rfl⟩ := Int.eq_ofNat_of_zero_le hv0
    have hz3 : w2.heap.size ≤ w3.heap.size := ho3.size
    obtain ⟨x, hx⟩ : ∃ x, libB[i]? = some x := ⟨libB[i]'(by show i < 5; omega), List.getElem?_eq_getElem _⟩
    obtain ⟨b9, off9, e9, hb9, a1⟩ := row_at_1 (HL2.out.only ho3 (fun a h => by injection h with h; subst h; show w1.heap.size ≠ b; omega)) hx rfl
    obtain ⟨rfl, rfl⟩ : b9 = w1.heap.size ∧ off9 = 0 := by injection e9 with e9; injection e9 with e1 e3 e4; exact ⟨e1.symm, e3.symm⟩
    rw [Nat.zero_add] at a1
    have hbo := lib_bond hx
    obtain ⟨y9, hy9, hs9, hsz⟩ := lib_at hx
    have HS3 := hide hs3
    have HO3 := hide (HO2.out.trans ho3)
    have HR3 := hide (ho3.blk HR2.out hn0)
    obtain ⟨rn, hrn⟩ : ∃ r, readN x = r := ⟨_, rfl⟩
    obtain ⟨rz, hrz⟩ : ∃ r, readZ x = r := ⟨_, rfl⟩
    obtain ⟨nz, hnz⟩ : ∃ r, rz.length = r := ⟨_, rfl⟩
    rw [hrn, hrz] at hbo
    have HBO := hide hbo
    have HN := hide hrn
    have HZ := hide hrz
    have HNZ := hide hnz
    clear hs3 ho3 e9 hx hbo hy9 hs9 hrn hrz hnz HS2 HO2 HR2 HL2
    go_wp2_with fail
    refine (spec_readBond x _ (by omega)).mono ?_
    rintro e w4 ⟨B, d, rfl, ho, hb4⟩
    rw [HN.out, HZ.out, HNZ.out]
    rw [HZ.out, HNZ.out] at ho
    have HOW := hide ho
    have hz4 : w3.heap.size ≤ w4.heap.size := hb4.size
    have hz5 : w.heap.size < w4.heap.size := by omega
    have hz6 : w.heap.size < w3.heap.size := by omega
    have HS4 := hide (HS3.out.keep hb4)
    have HO4 := hide (HO3.out.trans (Only.of_below hb4))
    obtain ⟨r0, r1, x0, x1⟩ := two_cells (HR3.out.below hb4 hz6)
    clear hb4 ho a1 HS3 HO3 HR3
    go_wp2
    refine bodyPost_ret (v := .agg #[.string rn, .slice B nz d]) ?_ rfl ⟨rn, rz, B, d, k3, HBO.out, by rw [HNZ.out], ?_, by omega, ?_, ?_⟩
    · have e0 := (World.cell?_alloc_lt ((w4.setCell ⟨w.heap.size, 0, none⟩ (.string rn)).setCell ⟨w.heap.size, 1, none⟩ (.slice B nz d)) (.cells #[.string rn, .slice B nz d] 26) ⟨w.heap.size, 0, none⟩ (by simpa using hz5))
      have e1 := (World.cell?_alloc_lt ((w4.setCell ⟨w.heap.size, 0, none⟩ (.string rn)).setCell ⟨w.heap.size, 1, none⟩ (.slice B nz d)) (.cells #[.string rn, .slice B nz d] 26) ⟨w.heap.size, 1, none⟩ (by simpa using hz5))
      simp [results, Tryd.results11, go_sem, e0, e1, r0, r1]
    · rw [HNZ.out]
      refine ⟨HNZ.out, own_low1' ((ownsRow_setCell_below (ownsRow_setCell_below HOW.out.own (a := ⟨w.heap.size, 0, none⟩) hz6 _) (a := ⟨w.heap.size, 1, none⟩) hz6 _).alloc _) (by omega), fun a ha => ?_, by simp⟩
      have := HOW.out.up a ha
      simp
      omega
    · exact ((HS4.out.set_ (p := ⟨w.heap.size, 0, none⟩) hn0 hw0 _).set_ (p := ⟨w.heap.size, 1, none⟩) hn0 hw0 _).alloc _
    · exact ((HO4.out.set_ (p := ⟨w.heap.size, 0, none⟩) (.inr (Nat.le_refl _)) _).set_ (p := ⟨w.heap.size, 1, none⟩) (.inr (Nat.le_refl _)) _).alloc _
  | false =>
    have HL2 := hide (row_built w1 [(⟨#[111, 119, 110]⟩ : ByteArray), ⟨#[121, 97, 114, 100, 45, 50]⟩] 9 w1.heap.size rfl)
    have HS2 := hide (HS1.out.alloc (.cells ([(⟨#[111, 119, 110]⟩ : ByteArray), ⟨#[121, 97, 114, 100, 45, 50]⟩].map Value.string).toArray 9))
    have HO2 := hide (HO1.out.alloc (.cells ([(⟨#[111, 119, 110]⟩ : ByteArray), ⟨#[121, 97, 114, 100, 45, 50]⟩].map Value.string).toArray 9))
    have HR2 := hide (HR1.out.alloc (.cells ([(⟨#[111, 119, 110]⟩ : ByteArray), ⟨#[121, 97, 114, 100, 45, 50]⟩].map Value.string).toArray 9))
    clear HS1 HO1 HR1
    go_wp2_with fail
    refine (src_text w0 _ b A n c k1 z w1.heap.size 2 2 _ rfl (by omega) (by omega) (by omega) HL2.out (by omega) HA.out HS2.out).mono ?_
    rintro e w3 ⟨x, k3, hx, rfl, hk3, hs3, ho3⟩
    have hz3 : w1.heap.size < w3.heap.size := by have := ho3.size; simp at this; omega
    have HNM := hide (own_names hx)
    have HS3 := hide (hs3.alloc (.cells #[.string x, .slice none 0 0] 26))
    have HO3 := hide ((HO2.out.trans ho3).alloc (.cells #[.string x, .slice none 0 0] 26))
    have HR3 := hide ((ho3.blk HR2.out hn0).alloc (.cells #[.string x, .slice none 0 0] 26))
    have HU3 := hide (Under.start (gb := w3.heap.size) (nm := x) (t := 33) (w := w3) rfl 26)
    clear hs3 ho3 hx HL2 HS2 HO2 HR2
    go_wp2_with fail
    refine (src_pick w0 _ b A n c k3 z 4 (by omega) (by omega) (by omega) HA.out HS3.out).mono ?_
    rintro e w4 ⟨v, k4, hv0, hv1, rfl, hk4, hs4, ho4⟩
    obtain ⟨T, hT⟩ : ∃ T : Nat, (1 : Int) + v = (T : Int) := ⟨(1 + v).toNat, by omega⟩
    have hz4 : w3.heap.size < w4.heap.size := by have := ho4.size; simp at this; omega
    have HS4 := hide hs4
    have HO4 := hide (HO3.out.trans ho4)
    have HR4 := hide (ho4.blk HR3.out hn0)
    have HU4 := hide (HU3.out.only ho4 (by omega))
    have hT1 : 1 ≤ T ∧ T ≤ 4 := by omega
    clear hs4 ho4 HS3 HO3 HR3 HU3 hv0 hv1
    go_wp2
    clear hT
    go_loopw [7] (fun i wr => ∃ (q k' : Nat) (zs : List Course) (u : Value), i = .int .i64 q ∧ q + zs.length = T ∧ k' ≤ k4 + 40 * zs.length ∧ Hid (zs.all Course.ok = true) ∧ Hid (Under w3.heap.size x 33 zs wr u) ∧ Hid (Src w0 wr b A n c k') ∧ Hid (Only b w wr) ∧ Hid (Blk wr w.heap.size 26 #[.string ⟨#[]⟩, .slice none 0 0])) (fun i _ => (intOf i).toNat)
    case atStart => exact ⟨T, k4, [], _, rfl, rfl, by omega, hide rfl, HU4, HS4, HO4, HR4⟩
    case round =>
      clear HS4 HO4 HR4 HU4
      obtain ⟨q, k5, zs, u, rfl, hq, hk5, HZ, HU, HS5, HO5, HR5⟩ := hrel
      have hlw := HU.out.lt
      have hzr := HO5.out.size
      by_cases hlt : 0 < q
      · have HS6 := hide (HS5.out.alloc (.cells #[.string ⟨#[]⟩, .string ⟨#[]⟩] 33))
        have HO6 := hide (HO5.out.alloc (.cells #[.string ⟨#[]⟩, .string ⟨#[]⟩] 33))
        have HR6 := hide (HR5.out.alloc (.cells #[.string ⟨#[]⟩, .string ⟨#[]⟩] 33))
        have HU6 := hide (HU.out.below ((Below.refl _ _).alloc (Nat.le_refl _) (.cells #[.string ⟨#[]⟩, .string ⟨#[]⟩] 33)))
        have HC6 := hide (Blk.new wr 33 #[.string ⟨#[]⟩, .string ⟨#[]⟩])
        have hgc : wr.heap.size ≠ b := by omega
        have hgc2 : w0.heap.size ≤ wr.heap.size := by omega
        have HNO := hide (show ¬ u.ownBlock = some wr.heap.size from fun q => by have := (HU.out.own.lt _ q).2; omega)
        clear HS5 HO5 HR5 HU
        go_wp2_with fail
        refine (src_one w0 _ b A n c k5 z _ (by omega) (by omega) (by omega) HA.out HS6.out).mono ?_
        rintro e w6 ⟨yes, k6, rfl, hk6, hs6, ho6⟩
        have hz6 : wr.heap.size < w6.heap.size := by have := ho6.size; simp at this; omega
        have HS7 := hide hs6
        have HO7 := hide (HO6.out.trans ho6)
        have HR7 := hide (ho6.blk HR6.out hn0)
        have HU7 := hide (HU6.out.only ho6 (by omega))
        have HC7 := hide (ho6.blk HC6.out hgc)
        clear hs6 ho6 HS6 HO6 HR6 HU6 HC6
        cases yes with
        | false =>
          obtain ⟨c0, c1, f0, f1⟩ := two_cells HC7.out
          go_wp2_with fail
          refine (src_pick w0 _ b A n c _ z 4 (by omega) (by omega) (by omega) HA.out HS7.out).mono ?_
          rintro e w9 ⟨v9, k9, hv90, hv91, rfl, hk9, hs9, ho9⟩
          obtain ⟨m9, hm9⟩ : ∃ m : Nat, (1 : Int) + v9 = (m : Int) := ⟨(1 + v9).toNat, by omega⟩
          have HS9 := hide hs9
          have HO9 := hide (HO7.out.trans ho9)
          have HR9 := hide (ho9.blk HR7.out hn0)
          have HU9 := hide (HU7.out.only ho9 (by omega))
          have HC9 := hide (ho9.blk HC7.out hgc)
          have hz9 : wr.heap.size < w9.heap.size := HC9.out.lt
          clear hs9 ho9 c0 c1 f0 f1
          go_wp2_with fail
          refine (src_some _ plC 2 letters_whole (by omega) (by omega) w0 _ b A n c k9 z m9 (by omega) (by omega) HA.out HS9.out).mono ?_
          rintro e w10 ⟨y, k10, hy1, hy2, rfl, hk10, hs10, ho10⟩
          have HY := hide hy2
          have HS10 := hide (hs10.set_ (p := ⟨wr.heap.size, 1, none⟩) hgc hgc2 (.string y))
          have HO10 := hide ((HO9.out.trans ho10).set_ (p := ⟨wr.heap.size, 1, none⟩) (.inr (by show w.heap.size ≤ wr.heap.size; omega)) (.string y))
          have HR10 := hide ((ho10.blk HR9.out hn0).far (p := ⟨wr.heap.size, 1, none⟩) (by show w.heap.size ≠ wr.heap.size; omega) (.string y))
          have hz10 : wr.heap.size < w10.heap.size := (ho10.blk HC9.out hgc).lt
          have HU10 := hide ((HU9.out.only ho10 (by omega)).grown (w' := w10.setCell ⟨wr.heap.size, 1, none⟩ (.string y)) (row := some wr.heap.size) ⟨rfl, rfl, rfl, by simp, fun i hi hne => Below.heap_setCell _ _ _ _ (fun e => hne (by rw [e]))⟩ (fun e => by injection e with e; omega) (fun j h1 h2 => by injection h1 with h1; subst h1; exact HNO.out h2))
          have HC10 := hide ((ho10.blk HC9.out hgc).set_ 1 (.string y))
          obtain ⟨d0, d1, g0, g1⟩ := two_cells (ho10.blk HC9.out hgc)
          have u1 := (HU9.out.only ho10 (by omega)).c1
          have u2 := (HU9.out.only ho10 (by omega)).f1
          have hgb := (HU9.out.only ho10 (by omega)).lt
          have hgbw : w3.heap.size < wr.heap.size := hlw
          clear hs10 ho10 hy2
          go_wp2_with (at_builtin; go_loud (refine wpList_append_lies _ rfl _ _ _ rfl (w3.heap.size + 1) 33 i0 _ 2 32 Tryd.underlying24 HI.out HY0.out HY1.out HY2.out rfl (by omega) u zs.length (flat Course.enc zs) rfl (HU10.out.own.alloc _) ⟨w10.heap.size, 0, none⟩ 1 1 [Value.string ⟨#[]⟩, .string y] rfl rfl (course_new_at _ _ _ _ _ (by simp)) course_one (by omega) (by unfold maxLen; omega) (by omega) (by simp; omega) (w10.heap.size + 1) (by simp) ?_; intro g2 cap2 w11 hown5 hgrow hat hlt2; have hne5 : some w3.heap.size ≠ u.ownBlock := (fun q => by have := (HU10.out.own.lt _ q.symm).1; omega); have t1 := (hgrow.cell_far ⟨w3.heap.size, 1, none⟩ (by simp; omega) hne5).trans (HU10.out.below ((Below.refl _ _).alloc (Nat.le_refl _) _)).c1; have t2 := (hgrow.frozen_far ⟨w3.heap.size, 1, none⟩ (by simp; omega) hne5).trans (HU10.out.below ((Below.refl _ _).alloc (Nat.le_refl _) _)).f1; have t3 : w3.heap.size < w11.heap.size := Nat.lt_of_lt_of_le (by simp; omega) hgrow.size))
          have hnr5 : some w.heap.size ≠ u.ownBlock := fun q => by
            have := (HU10.out.own.lt _ q.symm).1
            omega
          have hnb5 : some b ≠ u.ownBlock := fun q => by
            have := (HU10.out.own.lt _ q.symm).1
            omega
          have HU11 := hide (HU10.out.more hgrow hown5)
          have hub : ∀ j, u.ownBlock = some j → w3.heap.size + 1 ≤ j := fun j hj => (HU10.out.own.lt j hj).1
          have HS11 := hide (((HS10.out.alloc _).grown hgrow hnb5 (fun j hj => by have := hub j hj; omega)).set_ (p := ⟨w3.heap.size, 1, none⟩) (by show w3.heap.size ≠ b; omega) (by show w0.heap.size ≤ w3.heap.size; omega) (.slice (some ⟨g2, 0, none⟩) (zs.length + 1) cap2))
          have HO11 := hide (((HO10.out.alloc _).grown hgrow (fun j hj => by have := hub j hj; omega)).set_ (p := ⟨w3.heap.size, 1, none⟩) (.inr (by show w.heap.size ≤ w3.heap.size; omega)) (.slice (some ⟨g2, 0, none⟩) (zs.length + 1) cap2))
          have HR11 := hide (((HR10.out.alloc _).grown hgrow hnr5).far (p := ⟨w3.heap.size, 1, none⟩) (by show w.heap.size ≠ w3.heap.size; omega) (.slice (some ⟨g2, 0, none⟩) (zs.length + 1) cap2))
          clear hown5 hgrow hat d0 d1 g0 g1 u1 u2
          go_roundw
          case rel => exact ⟨q - 1, k10, zs ++ [⟨⟨#[]⟩, y⟩], _, int_eq (by omega), by rw [List.length_append]; simp; omega, by rw [List.length_append]; simp; omega, hide (by rw [List.all_append, HZ.out]; simp [course_yes (show (⟨#[]⟩ : ByteArray).size ≤ 6 from by decide) piece_empty (show 1 ≤ y.size ∧ y.size ≤ 8 from by omega) HY.out]), HU11, HS11, HO11, HR11⟩
          case measure => simp [intOf]; omega
        | true =>
          obtain ⟨c0, c1, f0, f1⟩ := two_cells HC7.out
          go_wp2_with fail
          refine (src_pick w0 _ b A n c _ z 3 (by omega) (by omega) (by omega) HA.out HS7.out).mono ?_
          rintro e w7 ⟨v7, k7, hv70, hv71, rfl, hk7, hs7, ho7⟩
          obtain ⟨m7, rfl⟩ := Int.eq_ofNat_of_zero_le hv70
          have HSa := hide hs7
          have HOa := hide (HO7.out.trans ho7)
          have HRa := hide (ho7.blk HR7.out hn0)
          have HUa := hide (HU7.out.only ho7 (by omega))
          have HCa := hide (ho7.blk HC7.out hgc)
          clear hs7 ho7 c0 c1 f0 f1
          go_wp2_with fail
          refine (src_some _ pcC 5 letters_all (by omega) (by omega) w0 _ b A n c k7 z m7 (by omega) (by omega) HA.out HSa.out).mono ?_
          rintro e w8 ⟨l, k8, hl1, hl2, rfl, hk8, hs8, ho8⟩
          have HLL := hide hl2
          obtain ⟨c0, c1, f0, f1⟩ := two_cells (ho8.blk HCa.out hgc)
          have HSb := hide (hs8.set_ (p := ⟨wr.heap.size, 0, none⟩) hgc hgc2 (.string l))
          have HOb := hide ((HOa.out.trans ho8).set_ (p := ⟨wr.heap.size, 0, none⟩) (.inr (by show w.heap.size ≤ wr.heap.size; omega)) (.string l))
          have HRb := hide ((ho8.blk HRa.out hn0).far (p := ⟨wr.heap.size, 0, none⟩) (by show w.heap.size ≠ wr.heap.size; omega) (.string l))
          have HUb := hide ((HUa.out.only ho8 (by omega)).grown (w' := w8.setCell ⟨wr.heap.size, 0, none⟩ (.string l)) (row := some wr.heap.size) ⟨rfl, rfl, rfl, by simp, fun i hi hne => Below.heap_setCell _ _ _ _ (fun e => hne (by rw [e]))⟩ (fun e => by injection e with e; omega) (fun j h1 h2 => by injection h1 with h1; subst h1; exact HNO.out h2))
          have HCb := hide (show Blk (w8.setCell ⟨wr.heap.size, 0, none⟩ (.string l)) wr.heap.size 33 #[.string l, .string ⟨#[]⟩] from (ho8.blk HCa.out hgc).set_ 0 (.string l))
          clear hs8 ho8 hl2
          go_wp2_with fail
          clear c0 c1 f0 f1
          refine (src_pick w0 _ b A n c _ z 4 (by omega) (by omega) (by omega) HA.out HSb.out).mono ?_
          rintro e w9 ⟨v9, k9, hv90, hv91, rfl, hk9, hs9, ho9⟩
          obtain ⟨m9, hm9⟩ : ∃ m : Nat, (1 : Int) + v9 = (m : Int) := ⟨(1 + v9).toNat, by omega⟩
          have HS9 := hide hs9
          have HO9 := hide (HOb.out.trans ho9)
          have HR9 := hide (ho9.blk HRb.out hn0)
          have HU9 := hide (HUb.out.only ho9 (by omega))
          have HC9 := hide (ho9.blk HCb.out hgc)
          have hz9 : wr.heap.size < w9.heap.size := HC9.out.lt
          clear hs9 ho9
          go_wp2_with fail
          refine (src_some _ plC 2 letters_whole (by omega) (by omega) w0 _ b A n c k9 z m9 (by omega) (by omega) HA.out HS9.out).mono ?_
          rintro e w10 ⟨y, k10, hy1, hy2, rfl, hk10, hs10, ho10⟩
          have HY := hide hy2
          have HS10 := hide (hs10.set_ (p := ⟨wr.heap.size, 1, none⟩) hgc hgc2 (.string y))
          have HO10 := hide ((HO9.out.trans ho10).set_ (p := ⟨wr.heap.size, 1, none⟩) (.inr (by show w.heap.size ≤ wr.heap.size; omega)) (.string y))
          have HR10 := hide ((ho10.blk HR9.out hn0).far (p := ⟨wr.heap.size, 1, none⟩) (by show w.heap.size ≠ wr.heap.size; omega) (.string y))
          have hz10 : wr.heap.size < w10.heap.size := (ho10.blk HC9.out hgc).lt
          have HU10 := hide ((HU9.out.only ho10 (by omega)).grown (w' := w10.setCell ⟨wr.heap.size, 1, none⟩ (.string y)) (row := some wr.heap.size) ⟨rfl, rfl, rfl, by simp, fun i hi hne => Below.heap_setCell _ _ _ _ (fun e => hne (by rw [e]))⟩ (fun e => by injection e with e; omega) (fun j h1 h2 => by injection h1 with h1; subst h1; exact HNO.out h2))
          have HC10 := hide ((ho10.blk HC9.out hgc).set_ 1 (.string y))
          obtain ⟨d0, d1, g0, g1⟩ := two_cells (ho10.blk HC9.out hgc)
          have u1 := (HU9.out.only ho10 (by omega)).c1
          have u2 := (HU9.out.only ho10 (by omega)).f1
          have hgb := (HU9.out.only ho10 (by omega)).lt
          have hgbw : w3.heap.size < wr.heap.size := hlw
          clear hs10 ho10 hy2
          go_wp2_with (at_builtin; go_loud (refine wpList_append_lies _ rfl _ _ _ rfl (w3.heap.size + 1) 33 i0 _ 2 32 Tryd.underlying24 HI.out HY0.out HY1.out HY2.out rfl (by omega) u zs.length (flat Course.enc zs) rfl (HU10.out.own.alloc _) ⟨w10.heap.size, 0, none⟩ 1 1 [Value.string l, .string y] rfl rfl (course_new_at _ _ _ _ _ (by simp)) course_one (by omega) (by unfold maxLen; omega) (by omega) (by simp; omega) (w10.heap.size + 1) (by simp) ?_; intro g2 cap2 w11 hown5 hgrow hat hlt2; have hne5 : some w3.heap.size ≠ u.ownBlock := (fun q => by have := (HU10.out.own.lt _ q.symm).1; omega); have t1 := (hgrow.cell_far ⟨w3.heap.size, 1, none⟩ (by simp; omega) hne5).trans (HU10.out.below ((Below.refl _ _).alloc (Nat.le_refl _) _)).c1; have t2 := (hgrow.frozen_far ⟨w3.heap.size, 1, none⟩ (by simp; omega) hne5).trans (HU10.out.below ((Below.refl _ _).alloc (Nat.le_refl _) _)).f1; have t3 : w3.heap.size < w11.heap.size := Nat.lt_of_lt_of_le (by simp; omega) hgrow.size))
          have hnr5 : some w.heap.size ≠ u.ownBlock := fun q => by
            have := (HU10.out.own.lt _ q.symm).1
            omega
          have hnb5 : some b ≠ u.ownBlock := fun q => by
            have := (HU10.out.own.lt _ q.symm).1
            omega
          have HU11 := hide (HU10.out.more hgrow hown5)
          have hub : ∀ j, u.ownBlock = some j → w3.heap.size + 1 ≤ j := fun j hj => (HU10.out.own.lt j hj).1
          have HS11 := hide (((HS10.out.alloc _).grown hgrow hnb5 (fun j hj => by have := hub j hj; omega)).set_ (p := ⟨w3.heap.size, 1, none⟩) (by show w3.heap.size ≠ b; omega) (by show w0.heap.size ≤ w3.heap.size; omega) (.slice (some ⟨g2, 0, none⟩) (zs.length + 1) cap2))
          have HO11 := hide (((HO10.out.alloc _).grown hgrow (fun j hj => by have := hub j hj; omega)).set_ (p := ⟨w3.heap.size, 1, none⟩) (.inr (by show w.heap.size ≤ w3.heap.size; omega)) (.slice (some ⟨g2, 0, none⟩) (zs.length + 1) cap2))
          have HR11 := hide (((HR10.out.alloc _).grown hgrow hnr5).far (p := ⟨w3.heap.size, 1, none⟩) (by show w.heap.size ≠ w3.heap.size; omega) (.slice (some ⟨g2, 0, none⟩) (zs.length + 1) cap2))
          clear hown5 hgrow hat d0 d1 g0 g1 u1 u2
          go_roundw
          case rel => exact ⟨q - 1, k10, zs ++ [⟨l, y⟩], _, int_eq (by omega), by rw [List.length_append]; simp; omega, by rw [List.length_append]; simp; omega, hide (by rw [List.all_append, HZ.out]; simp [course_yes (show l.size ≤ 6 from by omega) HLL.out (show 1 ≤ y.size ∧ y.size ≤ 8 from by omega) HY.out]), HU11, HS11, HO11, HR11⟩
          case measure => simp [intOf]; omega
      · obtain rfl : q = 0 := by omega
        obtain ⟨B, d, rfl, hrw, hown⟩ := HU.out.form
        obtain ⟨g0, g1, g2, g3⟩ : wr.cell? ⟨w3.heap.size, 0, none⟩ = some (.string x) ∧ wr.cell? ⟨w3.heap.size, 1, none⟩ = some (.slice B zs.length d) ∧ True ∧ True := ⟨HU.out.c0, HU.out.c1, trivial, trivial⟩
        have HOW := hide hown
        obtain ⟨nz, hnz⟩ : ∃ r, zs.length = r := ⟨_, rfl⟩
        have hnz2 : nz = T := by omega
        rw [hnz] at g1 HOW
        have HNZ := hide hnz
        obtain ⟨r0, r1, x0, x1⟩ := two_cells HR5.out
        have hzw : w.heap.size < wr.heap.size := by omega
        have HT := hide hnz2
        clear hown hrw hnz hnz2 hq
        go_wp2
        refine bodyPost_ret (v := .agg #[.string x, .slice B nz d]) ?_ rfl ⟨x, zs, B, d, k5, ?_, by rw [HNZ.out], ?_, by have := HT.out; have := HNZ.out; omega, ?_, ?_⟩
        · simp [results, Tryd.results11, go_sem, r0, r1]
        · unfold bondOk
          rw [HNM.out, HZ.out, decide_eq_true (show 1 ≤ zs.length ∧ zs.length ≤ 8 from by rw [HNZ.out]; have := HT.out; omega)]
          rfl
        · rw [HNZ.out]
          refine ⟨HNZ.out, own_low1' (ownsRow_setCell_below (ownsRow_setCell_below HOW.out.own (a := ⟨w.heap.size, 0, none⟩) (by show w.heap.size < w3.heap.size + 1; omega) _) (a := ⟨w.heap.size, 1, none⟩) (by show w.heap.size < w3.heap.size + 1; omega) _) (by omega), fun a ha => ?_, by simp⟩
          have := HOW.out.up a ha
          simp
          omega
        · exact (HS5.out.set_ (p := ⟨w.heap.size, 0, none⟩) hn0 hw0 _).set_ (p := ⟨w.heap.size, 1, none⟩) hn0 hw0 _
        · exact (HO5.out.set_ (p := ⟨w.heap.size, 0, none⟩) (.inr (Nat.le_refl _)) _).set_ (p := ⟨w.heap.size, 1, none⟩) (.inr (Nat.le_refl _)) _
end Go.Proofs.YtgobpleckeeheaaDoor
