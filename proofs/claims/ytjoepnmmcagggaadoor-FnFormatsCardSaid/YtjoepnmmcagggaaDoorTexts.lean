/-
  What is proved: a format and a mould as texts, of the program and of the reference. Conditions: numbers of 64 bits; the library's own table holds what its initialiser lays.
-/
import Derived.Test.YtjoepnmmcagggaaDoorNums
import Derived.Test.YtjoepnmmcagggaaDoorL02
import Derived.Test.YtjoepnmmcagggaaDoorMouldOk
import Derived.Deep.RegionHeld3
namespace Go.Proofs.YtjoepnmmcagggaaDoor
open Go.RowKit Go.PlainAid
set_option linter.unusedVariables false

def fmtT (l w h j : Int) : ByteArray := if fmtB l w h j = true then ba (fText l w h j) else ⟨#[]⟩
def mldT (l w h u : Int) : ByteArray := if mldB l w h u = true then ba (mText l w h u) else ⟨#[]⟩
theorem fmtT_yes {l w h j : Int} (e : fmtB l w h j = true) : fmtT l w h j = ba (fText l w h j) := if_pos e
theorem fmtT_no {l w h j : Int} (e : fmtB l w h j = false) : fmtT l w h j = ⟨#[]⟩ := if_neg (by rw [e]; simp)
theorem mldT_yes {l w h j : Int} (e : mldB l w h j = true) : mldT l w h j = ba (mText l w h j) := if_pos e
theorem mldT_no {l w h j : Int} (e : mldB l w h j = false) : mldT l w h j = ⟨#[]⟩ := if_neg (by rw [e]; simp)
theorem mldB_ok (l w h u : Int) : Mould.ok ⟨l, w, h, u⟩ = mldB l w h u := rfl
theorem ba_app (a b : List UInt8) : ba a ++ ba b = ba (a ++ b) := by
  apply ByteArray.ext
  simp [ba, ByteArray.data_append]
theorem fmt_bd {l w h j : Int} (e : fmtB l w h j = true) : I64 l ∧ I64 w ∧ I64 h ∧ I64 j := by
  have := fmt_small e
  unfold Small at this
  unfold I64
  omega
theorem mld_bd {l w h j : Int} (e : mldB l w h j = true) : I64 l ∧ I64 w ∧ I64 h ∧ I64 j := by
  have := mld_small e
  unfold Small at this
  unfold I64
  omega
theorem row_new3 (w : World) (x y z : Int) (t : TypeId) (g : Nat) (hg : w.heap.size = g) : Row encI 1 (w.alloc (.cells #[.int .i64 x, .int .i64 y, .int .i64 z] t)) (some ⟨g, 0, none⟩) [x, y, z] := fun _ => by
  subst hg
  refine ⟨w.heap.size, 0, rfl, by simp, fun i v hi j u hu => ?_⟩
  match j, hu with
  | 0, hu =>
    obtain rfl := Option.some.inj hu
    match i, hi with
    | 0, hi => obtain rfl := Option.some.inj hi; simp [World.cell?_alloc_new]
    | 1, hi => obtain rfl := Option.some.inj hi; simp [World.cell?_alloc_new]
    | 2, hi => obtain rfl := Option.some.inj hi; simp [World.cell?_alloc_new]
theorem fText_ba (l w h j : Int) : ba (sizesT l w h) ++ ⟨#[43]⟩ ++ decB j = ba (fText l w h j) := by
  have e : (⟨#[43]⟩ : ByteArray) = ba [43] := rfl
  unfold decB fText
  rw [e, ba_app, ba_app]
  simp
theorem mText_ba (l w h j : Int) : ba (sizesT l w h) ++ ⟨#[32, 117, 115, 101, 100, 32]⟩ ++ decB j = ba (mText l w h j) := by
  have e : (⟨#[32, 117, 115, 101, 100, 32]⟩ : ByteArray) = ba usedL := rfl
  unfold decB mText
  rw [e, ba_app, ba_app]
  simp
theorem fText_decs (l w h j : Int) : decB l ++ ⟨#[120]⟩ ++ decB w ++ ⟨#[120]⟩ ++ decB h ++ ⟨#[43]⟩ ++ decB j = ba (fText l w h j) := by
  have e : (⟨#[43]⟩ : ByteArray) = ba [43] := rfl
  have e2 : (⟨#[120]⟩ : ByteArray) = ba [120] := rfl
  unfold decB fText sizesT
  rw [e, e2]
  simp only [ba_app]
  simp
theorem mText_decs (l w h j : Int) : decB l ++ ⟨#[120]⟩ ++ decB w ++ ⟨#[120]⟩ ++ decB h ++ ⟨#[32, 117, 115, 101, 100, 32]⟩ ++ decB j = ba (mText l w h j) := by
  have e : (⟨#[32, 117, 115, 101, 100, 32]⟩ : ByteArray) = ba usedL := rfl
  have e2 : (⟨#[120]⟩ : ByteArray) = ba [120] := rfl
  unfold decB mText sizesT
  rw [e, e2]
  simp only [ba_app]
  simp
set_option maxRecDepth 100000 in
set_option maxHeartbeats 2000000 in
theorem impl_formatText (l wd h j : Int) (w : World) (hp : Pow10 w) :
    Calls Tryd.prog 21 #[.agg #[.int .i64 l, .int .i64 wd, .int .i64 h, .int .i64 j]] w fun e w' => e = .returned (.string (fmtT l wd h j)) ∧ Below w.heap.size w w' := by
  have HP := hide hp
  clear hp
  have HB0 := hide ((Below.refl w.heap.size w).alloc (Nat.le_refl _) (.cells #[.int .i64 l, .int .i64 wd, .int .i64 h, .int .i64 j] 34))
  cases hb : fmtB l wd h j with
  | false =>
    rw [fmtT_no hb]
    have HV := hide hb
    clear hb
    go_enter Tryd.func21, Tryd.ntmps21
    go_wp2_with fail
    refine (impl_validFormat _ _ _ _ _).mono ?_
    rintro e w1 ⟨rfl, hb1⟩
    rw [HV.out]
    have HB1 := hide (HB0.out.trans (hb1.mono (by simp)))
    clear hb1
    go_wp2
    go_ret
    exact ⟨rfl, HB1.out⟩
  | true =>
    obtain ⟨i0, i1, i2, i3⟩ := fmt_bd hb
    rw [fmtT_yes hb, ← fText_ba]
    have hs1 := sizes_size l wd h i0 i1 i2
    have hs2 := decB_size j i3
    obtain ⟨S1, e1⟩ : ∃ s, ba (sizesT l wd h) = s := ⟨_, rfl⟩
    obtain ⟨S2, e2⟩ : ∃ s, decB j = s := ⟨_, rfl⟩
    rw [e1] at hs1 ⊢
    rw [e2] at hs2 ⊢
    have c1 : ¬ 9223372036854775807 < S1.size + 1 := by omega
    have c2 : ¬ 9223372036854775807 < S1.size + 1 + S2.size := by omega
    have HV := hide hb
    have E1 := hide e1
    have E2 := hide e2
    clear hb e1 e2
    go_enter Tryd.func21, Tryd.ntmps21
    go_wp2_with fail
    refine (impl_validFormat _ _ _ _ _).mono ?_
    rintro e w1 ⟨rfl, hb⟩
    rw [HV.out]
    have HB1 := hide (HB0.out.trans (hb.mono (by simp)))
    have r0 := (hb.cell (p := ⟨w.heap.size, 0, none⟩) (by simp)).trans (show _ = some (.int .i64 l) from by simp [go_sem])
    have r1 := (hb.cell (p := ⟨w.heap.size, 1, none⟩) (by simp)).trans (show _ = some (.int .i64 wd) from by simp [go_sem])
    have r2 := (hb.cell (p := ⟨w.heap.size, 2, none⟩) (by simp)).trans (show _ = some (.int .i64 h) from by simp [go_sem])
    have r3 := (hb.cell (p := ⟨w.heap.size, 3, none⟩) (by simp)).trans (show _ = some (.int .i64 j) from by simp [go_sem])
    have hz : w.heap.size < w1.heap.size := by have := hb.size; simp at this; omega
    clear hb
    go_wp2
    go_region_held3 (fun w' => w'.cell? ⟨w.heap.size, 0, none⟩ = some (.int .i64 l) ∧ w'.cell? ⟨w.heap.size, 1, none⟩ = some (.int .i64 wd) ∧ w'.cell? ⟨w.heap.size, 2, none⟩ = some (.int .i64 h) ∧ w'.cell? ⟨w.heap.size, 3, none⟩ = some (.int .i64 j))
      (first
        | go_keep
        | exact ⟨r0, r1, r2, r3⟩)
      (first
      | (go_at_call 56
         refine (impl_nums3 l wd h _ 0 3 _ (row_new3 _ _ _ _ _ _ (by rfl)) i0 i1 i2 (HP.out.below (HB1.out.drew.alloc HB1.out.size _))).mono ?_
         rintro e v1 ⟨rfl, hb⟩
         rw [E1.out]
         replace r0 := (hb.cell (p := ⟨w.heap.size, 0, none⟩) (by first | exact hz | (simp; omega))).trans (by first | exact r0 | exact (World.cell?_alloc_lt _ _ ⟨w.heap.size, 0, none⟩ hz).trans r0)
         replace r1 := (hb.cell (p := ⟨w.heap.size, 1, none⟩) (by first | exact hz | (simp; omega))).trans (by first | exact r1 | exact (World.cell?_alloc_lt _ _ ⟨w.heap.size, 1, none⟩ hz).trans r1)
         replace r2 := (hb.cell (p := ⟨w.heap.size, 2, none⟩) (by first | exact hz | (simp; omega))).trans (by first | exact r2 | exact (World.cell?_alloc_lt _ _ ⟨w.heap.size, 2, none⟩ hz).trans r2)
         replace r3 := (hb.cell (p := ⟨w.heap.size, 3, none⟩) (by first | exact hz | (simp; omega))).trans (by first | exact r3 | exact (World.cell?_alloc_lt _ _ ⟨w.heap.size, 3, none⟩ hz).trans r3)
         have HBv1 := hide ((HB1.out.drew.alloc HB1.out.size _).trans (hb.mono (by have := HB1.out.size; simp; omega)))
         have hzv1 : w.heap.size < v1.heap.size := by have := hb.size; first | omega | (simp at this; omega)
         clear hb)
      | (go_at_call 14
         refine (impl_dec j _ i3 (HP.out.below HBv1.out)).mono ?_
         rintro e v2 ⟨rfl, hb⟩
         rw [E2.out]
         replace r0 := (hb.cell (p := ⟨w.heap.size, 0, none⟩) (by first | exact hzv1 | (simp; omega))).trans (by first | exact r0 | exact (World.cell?_alloc_lt _ _ ⟨w.heap.size, 0, none⟩ hzv1).trans r0)
         replace r1 := (hb.cell (p := ⟨w.heap.size, 1, none⟩) (by first | exact hzv1 | (simp; omega))).trans (by first | exact r1 | exact (World.cell?_alloc_lt _ _ ⟨w.heap.size, 1, none⟩ hzv1).trans r1)
         replace r2 := (hb.cell (p := ⟨w.heap.size, 2, none⟩) (by first | exact hzv1 | (simp; omega))).trans (by first | exact r2 | exact (World.cell?_alloc_lt _ _ ⟨w.heap.size, 2, none⟩ hzv1).trans r2)
         replace r3 := (hb.cell (p := ⟨w.heap.size, 3, none⟩) (by first | exact hzv1 | (simp; omega))).trans (by first | exact r3 | exact (World.cell?_alloc_lt _ _ ⟨w.heap.size, 3, none⟩ hzv1).trans r3)
         have HBv2 := hide (HBv1.out.trans (hb.mono HBv1.out.size))
         clear hb))
    go_wp2
    go_ret
    exact ⟨rfl, HBv2.out⟩
theorem mould_sizes (a b c d : Int) (w : World) :
    Calls Tryd.prog 60 #[.agg #[.int .i64 a, .int .i64 b, .int .i64 c, .int .i64 d]] w fun e w' => ∃ g, e = .returned (.slice (some ⟨g, 0, none⟩) 3 3) ∧ Row encI 1 w' (some ⟨g, 0, none⟩) [a, b, c] ∧ Below w.heap.size w w' := by
  go_enter Tryd.func60, Tryd.ntmps60
  go_wp2
  go_ret
  exact ⟨_, rfl, row_new3 _ _ _ _ _ _ (by simp), by go_grown⟩
set_option maxRecDepth 100000 in
set_option maxHeartbeats 2000000 in
theorem impl_mouldText (l wd h j : Int) (w : World) (hp : Pow10 w) :
    Calls Tryd.prog 24 #[.agg #[.int .i64 l, .int .i64 wd, .int .i64 h, .int .i64 j]] w fun e w' => e = .returned (.string (mldT l wd h j)) ∧ Below w.heap.size w w' := by
  have HP := hide hp
  clear hp
  have HB0 := hide ((Below.refl w.heap.size w).alloc (Nat.le_refl _) (.cells #[.int .i64 l, .int .i64 wd, .int .i64 h, .int .i64 j] 40))
  cases hb : mldB l wd h j with
  | false =>
    rw [mldT_no hb]
    have HV := hide hb
    clear hb
    go_enter Tryd.func24, Tryd.ntmps24
    go_wp2_with fail
    refine (impl_validMould _ _ _ _ _).mono ?_
    rintro e w1 ⟨rfl, hb1⟩
    rw [mldB_ok]
    rw [HV.out]
    have HB1 := hide (HB0.out.trans (hb1.mono (by simp)))
    clear hb1
    go_wp2
    go_ret
    exact ⟨rfl, HB1.out⟩
  | true =>
    obtain ⟨i0, i1, i2, i3⟩ := mld_bd hb
    rw [mldT_yes hb, ← mText_ba]
    have hs1 := sizes_size l wd h i0 i1 i2
    have hs2 := decB_size j i3
    obtain ⟨S1, e1⟩ : ∃ s, ba (sizesT l wd h) = s := ⟨_, rfl⟩
    obtain ⟨S2, e2⟩ : ∃ s, decB j = s := ⟨_, rfl⟩
    rw [e1] at hs1 ⊢
    rw [e2] at hs2 ⊢
    have c1 : ¬ 9223372036854775807 < S1.size + 6 := by omega
    have c2 : ¬ 9223372036854775807 < S1.size + 6 + S2.size := by omega
    have HV := hide hb
    have E1 := hide e1
    have E2 := hide e2
    clear hb e1 e2
    go_enter Tryd.func24, Tryd.ntmps24
    go_wp2_with fail
    refine (impl_validMould _ _ _ _ _).mono ?_
    rintro e w1 ⟨rfl, hb⟩
    rw [mldB_ok]
    rw [HV.out]
    have HB1 := hide (HB0.out.trans (hb.mono (by simp)))
    have r0 := (hb.cell (p := ⟨w.heap.size, 0, none⟩) (by simp)).trans (show _ = some (.int .i64 l) from by simp [go_sem])
    have r1 := (hb.cell (p := ⟨w.heap.size, 1, none⟩) (by simp)).trans (show _ = some (.int .i64 wd) from by simp [go_sem])
    have r2 := (hb.cell (p := ⟨w.heap.size, 2, none⟩) (by simp)).trans (show _ = some (.int .i64 h) from by simp [go_sem])
    have r3 := (hb.cell (p := ⟨w.heap.size, 3, none⟩) (by simp)).trans (show _ = some (.int .i64 j) from by simp [go_sem])
    have hz : w.heap.size < w1.heap.size := by have := hb.size; simp at this; omega
    clear hb
    go_wp2
    go_region_held3 (fun w' => w'.cell? ⟨w.heap.size, 0, none⟩ = some (.int .i64 l) ∧ w'.cell? ⟨w.heap.size, 1, none⟩ = some (.int .i64 wd) ∧ w'.cell? ⟨w.heap.size, 2, none⟩ = some (.int .i64 h) ∧ w'.cell? ⟨w.heap.size, 3, none⟩ = some (.int .i64 j))
      (first
        | go_keep
        | exact ⟨r0, r1, r2, r3⟩)
      (first
      | (go_at_call 60
         refine (mould_sizes l wd h j _).mono ?_
         rintro e v0 ⟨g0, rfl, hrow, hb⟩
         replace r0 := (hb.cell (p := ⟨w.heap.size, 0, none⟩) (by first | exact hz | (simp; omega))).trans (by first | exact r0 | exact (World.cell?_alloc_lt _ _ ⟨w.heap.size, 0, none⟩ hz).trans r0)
         replace r1 := (hb.cell (p := ⟨w.heap.size, 1, none⟩) (by first | exact hz | (simp; omega))).trans (by first | exact r1 | exact (World.cell?_alloc_lt _ _ ⟨w.heap.size, 1, none⟩ hz).trans r1)
         replace r2 := (hb.cell (p := ⟨w.heap.size, 2, none⟩) (by first | exact hz | (simp; omega))).trans (by first | exact r2 | exact (World.cell?_alloc_lt _ _ ⟨w.heap.size, 2, none⟩ hz).trans r2)
         replace r3 := (hb.cell (p := ⟨w.heap.size, 3, none⟩) (by first | exact hz | (simp; omega))).trans (by first | exact r3 | exact (World.cell?_alloc_lt _ _ ⟨w.heap.size, 3, none⟩ hz).trans r3)
         have HBv0 := hide (HB1.out.drew.trans (hb.mono HB1.out.size))
         have hzv0 : w.heap.size < v0.heap.size := by have := hb.size; first | omega | (simp at this; omega)
         have HR := hide hrow
         clear hb hrow)
      | (go_at_call 56
         refine (impl_nums3 l wd h _ 0 3 _ HR.out i0 i1 i2 (HP.out.below HBv0.out)).mono ?_
         rintro e v1 ⟨rfl, hb⟩
         rw [E1.out]
         replace r0 := (hb.cell (p := ⟨w.heap.size, 0, none⟩) (by first | exact hzv0 | (simp; omega))).trans (by first | exact r0 | exact (World.cell?_alloc_lt _ _ ⟨w.heap.size, 0, none⟩ hzv0).trans r0)
         replace r1 := (hb.cell (p := ⟨w.heap.size, 1, none⟩) (by first | exact hzv0 | (simp; omega))).trans (by first | exact r1 | exact (World.cell?_alloc_lt _ _ ⟨w.heap.size, 1, none⟩ hzv0).trans r1)
         replace r2 := (hb.cell (p := ⟨w.heap.size, 2, none⟩) (by first | exact hzv0 | (simp; omega))).trans (by first | exact r2 | exact (World.cell?_alloc_lt _ _ ⟨w.heap.size, 2, none⟩ hzv0).trans r2)
         replace r3 := (hb.cell (p := ⟨w.heap.size, 3, none⟩) (by first | exact hzv0 | (simp; omega))).trans (by first | exact r3 | exact (World.cell?_alloc_lt _ _ ⟨w.heap.size, 3, none⟩ hzv0).trans r3)
         have HBv1 := hide (HBv0.out.trans (hb.mono HBv0.out.size))
         have hzv1 : w.heap.size < v1.heap.size := by have := hb.size; first | omega | (simp at this; omega)
         clear hb)
      | (go_at_call 14
         refine (impl_dec j _ i3 (HP.out.below HBv1.out)).mono ?_
         rintro e v2 ⟨rfl, hb⟩
         rw [E2.out]
         replace r0 := (hb.cell (p := ⟨w.heap.size, 0, none⟩) (by first | exact hzv1 | (simp; omega))).trans (by first | exact r0 | exact (World.cell?_alloc_lt _ _ ⟨w.heap.size, 0, none⟩ hzv1).trans r0)
         replace r1 := (hb.cell (p := ⟨w.heap.size, 1, none⟩) (by first | exact hzv1 | (simp; omega))).trans (by first | exact r1 | exact (World.cell?_alloc_lt _ _ ⟨w.heap.size, 1, none⟩ hzv1).trans r1)
         replace r2 := (hb.cell (p := ⟨w.heap.size, 2, none⟩) (by first | exact hzv1 | (simp; omega))).trans (by first | exact r2 | exact (World.cell?_alloc_lt _ _ ⟨w.heap.size, 2, none⟩ hzv1).trans r2)
         replace r3 := (hb.cell (p := ⟨w.heap.size, 3, none⟩) (by first | exact hzv1 | (simp; omega))).trans (by first | exact r3 | exact (World.cell?_alloc_lt _ _ ⟨w.heap.size, 3, none⟩ hzv1).trans r3)
         have HBv2 := hide (HBv1.out.trans (hb.mono HBv1.out.size))
         clear hb))
    go_wp2
    go_ret
    exact ⟨rfl, HBv2.out⟩
set_option maxRecDepth 100000 in
set_option maxHeartbeats 2000000 in
theorem spec_l02Text (l wd h j : Int) (w : World) (i0 : I64 l) (i1 : I64 wd) (i2 : I64 h) (i3 : I64 j) :
    Calls Tryd.prog 54 #[.agg #[.int .i64 l, .int .i64 wd, .int .i64 h, .int .i64 j]] w fun e w' => e = .returned (.string (ba (fText l wd h j))) ∧ Below w.heap.size w w' := by
  rw [← fText_decs]
  have hs1 := decB_size l i0
  have hs2 := decB_size wd i1
  have hs3 := decB_size h i2
  have hs4 := decB_size j i3
  obtain ⟨S1, e1⟩ : ∃ s, decB l = s := ⟨_, rfl⟩
  rw [e1] at hs1 ⊢
  have E1 := hide e1
  clear e1
  obtain ⟨S2, e2⟩ : ∃ s, decB wd = s := ⟨_, rfl⟩
  rw [e2] at hs2 ⊢
  have E2 := hide e2
  clear e2
  obtain ⟨S3, e3⟩ : ∃ s, decB h = s := ⟨_, rfl⟩
  rw [e3] at hs3 ⊢
  have E3 := hide e3
  clear e3
  obtain ⟨S4, e4⟩ : ∃ s, decB j = s := ⟨_, rfl⟩
  rw [e4] at hs4 ⊢
  have E4 := hide e4
  clear e4
  have c0 : ¬ 9223372036854775807 < S1.size + 1 := by omega
  have c1 : ¬ 9223372036854775807 < S1.size + 1 + S2.size := by omega
  have c2 : ¬ 9223372036854775807 < S1.size + 1 + S2.size + 1 := by omega
  have c3 : ¬ 9223372036854775807 < S1.size + 1 + S2.size + 1 + S3.size := by omega
  have c4 : ¬ 9223372036854775807 < S1.size + 1 + S2.size + 1 + S3.size + 1 := by omega
  have c5 : ¬ 9223372036854775807 < S1.size + 1 + S2.size + 1 + S3.size + 1 + S4.size := by omega
  go_enter Tryd.func54, Tryd.ntmps54
  have HB0 := hide ((Below.refl w.heap.size w).alloc (Nat.le_refl _) (.cells #[.int .i64 l, .int .i64 wd, .int .i64 h, .int .i64 j] 34))
  have r0 : (w.alloc (.cells #[.int .i64 l, .int .i64 wd, .int .i64 h, .int .i64 j] 34)).cell? ⟨w.heap.size, 0, none⟩ = some (.int .i64 l) := by simp [go_sem]
  have r1 : (w.alloc (.cells #[.int .i64 l, .int .i64 wd, .int .i64 h, .int .i64 j] 34)).cell? ⟨w.heap.size, 1, none⟩ = some (.int .i64 wd) := by simp [go_sem]
  have r2 : (w.alloc (.cells #[.int .i64 l, .int .i64 wd, .int .i64 h, .int .i64 j] 34)).cell? ⟨w.heap.size, 2, none⟩ = some (.int .i64 h) := by simp [go_sem]
  have r3 : (w.alloc (.cells #[.int .i64 l, .int .i64 wd, .int .i64 h, .int .i64 j] 34)).cell? ⟨w.heap.size, 3, none⟩ = some (.int .i64 j) := by simp [go_sem]
  have hz : w.heap.size < (w.alloc (.cells #[.int .i64 l, .int .i64 wd, .int .i64 h, .int .i64 j] 34)).heap.size := by simp
  go_wp2
  go_region_held3 (fun w' => w'.cell? ⟨w.heap.size, 0, none⟩ = some (.int .i64 l) ∧ w'.cell? ⟨w.heap.size, 1, none⟩ = some (.int .i64 wd) ∧ w'.cell? ⟨w.heap.size, 2, none⟩ = some (.int .i64 h) ∧ w'.cell? ⟨w.heap.size, 3, none⟩ = some (.int .i64 j))
    (first
      | go_keep
      | exact ⟨r0, r1, r2, r3⟩)
    (first
      | (go_at_call_of 48 (Value.int .i64 l)
         refine (spec_dec l _ i0).mono ?_
         rintro e v1 ⟨rfl, hb⟩
         rw [E1.out]
         replace r0 := (hb.cell (p := ⟨w.heap.size, 0, none⟩) (by first | exact hz | (simp; omega))).trans (by first | exact r0 | exact (World.cell?_alloc_lt _ _ ⟨w.heap.size, 0, none⟩ hz).trans r0)
         replace r1 := (hb.cell (p := ⟨w.heap.size, 1, none⟩) (by first | exact hz | (simp; omega))).trans (by first | exact r1 | exact (World.cell?_alloc_lt _ _ ⟨w.heap.size, 1, none⟩ hz).trans r1)
         replace r2 := (hb.cell (p := ⟨w.heap.size, 2, none⟩) (by first | exact hz | (simp; omega))).trans (by first | exact r2 | exact (World.cell?_alloc_lt _ _ ⟨w.heap.size, 2, none⟩ hz).trans r2)
         replace r3 := (hb.cell (p := ⟨w.heap.size, 3, none⟩) (by first | exact hz | (simp; omega))).trans (by first | exact r3 | exact (World.cell?_alloc_lt _ _ ⟨w.heap.size, 3, none⟩ hz).trans r3)
         have HBv1 := hide (HB0.out.drew.trans (hb.mono HB0.out.size))
         have hzv1 : w.heap.size < v1.heap.size := by have := hb.size; first | omega | (simp at this; omega)
         clear hb)
      | (go_at_call_of 48 (Value.int .i64 wd)
         refine (spec_dec wd _ i1).mono ?_
         rintro e v2 ⟨rfl, hb⟩
         rw [E2.out]
         replace r0 := (hb.cell (p := ⟨w.heap.size, 0, none⟩) (by first | exact hzv1 | (simp; omega))).trans (by first | exact r0 | exact (World.cell?_alloc_lt _ _ ⟨w.heap.size, 0, none⟩ hzv1).trans r0)
         replace r1 := (hb.cell (p := ⟨w.heap.size, 1, none⟩) (by first | exact hzv1 | (simp; omega))).trans (by first | exact r1 | exact (World.cell?_alloc_lt _ _ ⟨w.heap.size, 1, none⟩ hzv1).trans r1)
         replace r2 := (hb.cell (p := ⟨w.heap.size, 2, none⟩) (by first | exact hzv1 | (simp; omega))).trans (by first | exact r2 | exact (World.cell?_alloc_lt _ _ ⟨w.heap.size, 2, none⟩ hzv1).trans r2)
         replace r3 := (hb.cell (p := ⟨w.heap.size, 3, none⟩) (by first | exact hzv1 | (simp; omega))).trans (by first | exact r3 | exact (World.cell?_alloc_lt _ _ ⟨w.heap.size, 3, none⟩ hzv1).trans r3)
         have HBv2 := hide (HBv1.out.trans (hb.mono HBv1.out.size))
         have hzv2 : w.heap.size < v2.heap.size := by have := hb.size; first | omega | (simp at this; omega)
         clear hb)
      | (go_at_call_of 48 (Value.int .i64 h)
         refine (spec_dec h _ i2).mono ?_
         rintro e v3 ⟨rfl, hb⟩
         rw [E3.out]
         replace r0 := (hb.cell (p := ⟨w.heap.size, 0, none⟩) (by first | exact hzv2 | (simp; omega))).trans (by first | exact r0 | exact (World.cell?_alloc_lt _ _ ⟨w.heap.size, 0, none⟩ hzv2).trans r0)
         replace r1 := (hb.cell (p := ⟨w.heap.size, 1, none⟩) (by first | exact hzv2 | (simp; omega))).trans (by first | exact r1 | exact (World.cell?_alloc_lt _ _ ⟨w.heap.size, 1, none⟩ hzv2).trans r1)
         replace r2 := (hb.cell (p := ⟨w.heap.size, 2, none⟩) (by first | exact hzv2 | (simp; omega))).trans (by first | exact r2 | exact (World.cell?_alloc_lt _ _ ⟨w.heap.size, 2, none⟩ hzv2).trans r2)
         replace r3 := (hb.cell (p := ⟨w.heap.size, 3, none⟩) (by first | exact hzv2 | (simp; omega))).trans (by first | exact r3 | exact (World.cell?_alloc_lt _ _ ⟨w.heap.size, 3, none⟩ hzv2).trans r3)
         have HBv3 := hide (HBv2.out.trans (hb.mono HBv2.out.size))
         have hzv3 : w.heap.size < v3.heap.size := by have := hb.size; first | omega | (simp at this; omega)
         clear hb)
      | (go_at_call_of 48 (Value.int .i64 j)
         refine (spec_dec j _ i3).mono ?_
         rintro e v4 ⟨rfl, hb⟩
         rw [E4.out]
         replace r0 := (hb.cell (p := ⟨w.heap.size, 0, none⟩) (by first | exact hzv3 | (simp; omega))).trans (by first | exact r0 | exact (World.cell?_alloc_lt _ _ ⟨w.heap.size, 0, none⟩ hzv3).trans r0)
         replace r1 := (hb.cell (p := ⟨w.heap.size, 1, none⟩) (by first | exact hzv3 | (simp; omega))).trans (by first | exact r1 | exact (World.cell?_alloc_lt _ _ ⟨w.heap.size, 1, none⟩ hzv3).trans r1)
         replace r2 := (hb.cell (p := ⟨w.heap.size, 2, none⟩) (by first | exact hzv3 | (simp; omega))).trans (by first | exact r2 | exact (World.cell?_alloc_lt _ _ ⟨w.heap.size, 2, none⟩ hzv3).trans r2)
         replace r3 := (hb.cell (p := ⟨w.heap.size, 3, none⟩) (by first | exact hzv3 | (simp; omega))).trans (by first | exact r3 | exact (World.cell?_alloc_lt _ _ ⟨w.heap.size, 3, none⟩ hzv3).trans r3)
         have HBv4 := hide (HBv3.out.trans (hb.mono HBv3.out.size))
         have hzv4 : w.heap.size < v4.heap.size := by have := hb.size; first | omega | (simp at this; omega)
         clear hb))
  go_wp2
  go_ret
  exact ⟨rfl, HBv4.out⟩
set_option maxRecDepth 100000 in
set_option maxHeartbeats 2000000 in
theorem spec_l05Text (l wd h j : Int) (g off : Nat) (w : World) (i0 : I64 l) (i1 : I64 wd) (i2 : I64 h) (i3 : I64 j) (r0 : w.cell? ⟨g, off, none⟩ = some (.int .i64 l)) (r1 : w.cell? ⟨g, off + 1, none⟩ = some (.int .i64 wd)) (r2 : w.cell? ⟨g, off + 2, none⟩ = some (.int .i64 h)) (r3 : w.cell? ⟨g, off + 3, none⟩ = some (.int .i64 j)) :
    Calls Tryd.prog 58 #[.pointer (some ⟨g, off, none⟩)] w fun e w' => e = .returned (.string (ba (mText l wd h j))) ∧ Below w.heap.size w w' := by
  have hz : g < w.heap.size := cell_lt' r0
  rw [← mText_decs]
  have hs1 := decB_size l i0
  have hs2 := decB_size wd i1
  have hs3 := decB_size h i2
  have hs4 := decB_size j i3
  obtain ⟨S1, e1⟩ : ∃ s, decB l = s := ⟨_, rfl⟩
  rw [e1] at hs1 ⊢
  have E1 := hide e1
  clear e1
  obtain ⟨S2, e2⟩ : ∃ s, decB wd = s := ⟨_, rfl⟩
  rw [e2] at hs2 ⊢
  have E2 := hide e2
  clear e2
  obtain ⟨S3, e3⟩ : ∃ s, decB h = s := ⟨_, rfl⟩
  rw [e3] at hs3 ⊢
  have E3 := hide e3
  clear e3
  obtain ⟨S4, e4⟩ : ∃ s, decB j = s := ⟨_, rfl⟩
  rw [e4] at hs4 ⊢
  have E4 := hide e4
  clear e4
  have c0 : ¬ 9223372036854775807 < S1.size + 1 := by omega
  have c1 : ¬ 9223372036854775807 < S1.size + 1 + S2.size := by omega
  have c2 : ¬ 9223372036854775807 < S1.size + 1 + S2.size + 1 := by omega
  have c3 : ¬ 9223372036854775807 < S1.size + 1 + S2.size + 1 + S3.size := by omega
  have c4 : ¬ 9223372036854775807 < S1.size + 1 + S2.size + 1 + S3.size + 6 := by omega
  have c5 : ¬ 9223372036854775807 < S1.size + 1 + S2.size + 1 + S3.size + 6 + S4.size := by omega
  go_enter Tryd.func58, Tryd.ntmps58
  have HB0 := hide (Below.refl w.heap.size w)
  go_wp2
  go_region_held3 (fun w' => w'.cell? ⟨g, off, none⟩ = some (.int .i64 l) ∧ w'.cell? ⟨g, off + 1, none⟩ = some (.int .i64 wd) ∧ w'.cell? ⟨g, off + 2, none⟩ = some (.int .i64 h) ∧ w'.cell? ⟨g, off + 3, none⟩ = some (.int .i64 j))
    (first
      | go_keep
      | exact ⟨r0, r1, r2, r3⟩)
    (first
      | (go_at_call_of 48 (Value.int .i64 l)
         refine (spec_dec l _ i0).mono ?_
         rintro e v1 ⟨rfl, hb⟩
         rw [E1.out]
         replace r0 := (hb.cell (p := ⟨g, off, none⟩) (by first | exact hz | (simp; omega))).trans (by first | exact r0 | exact (World.cell?_alloc_lt _ _ ⟨g, off, none⟩ hz).trans r0)
         replace r1 := (hb.cell (p := ⟨g, off + 1, none⟩) (by first | exact hz | (simp; omega))).trans (by first | exact r1 | exact (World.cell?_alloc_lt _ _ ⟨g, off + 1, none⟩ hz).trans r1)
         replace r2 := (hb.cell (p := ⟨g, off + 2, none⟩) (by first | exact hz | (simp; omega))).trans (by first | exact r2 | exact (World.cell?_alloc_lt _ _ ⟨g, off + 2, none⟩ hz).trans r2)
         replace r3 := (hb.cell (p := ⟨g, off + 3, none⟩) (by first | exact hz | (simp; omega))).trans (by first | exact r3 | exact (World.cell?_alloc_lt _ _ ⟨g, off + 3, none⟩ hz).trans r3)
         have HBv1 := hide (HB0.out.drew.trans (hb.mono HB0.out.size))
         have hzv1 : g < v1.heap.size := by have := hb.size; first | omega | (simp at this; omega)
         clear hb)
      | (go_at_call_of 48 (Value.int .i64 wd)
         refine (spec_dec wd _ i1).mono ?_
         rintro e v2 ⟨rfl, hb⟩
         rw [E2.out]
         replace r0 := (hb.cell (p := ⟨g, off, none⟩) (by first | exact hzv1 | (simp; omega))).trans (by first | exact r0 | exact (World.cell?_alloc_lt _ _ ⟨g, off, none⟩ hzv1).trans r0)
         replace r1 := (hb.cell (p := ⟨g, off + 1, none⟩) (by first | exact hzv1 | (simp; omega))).trans (by first | exact r1 | exact (World.cell?_alloc_lt _ _ ⟨g, off + 1, none⟩ hzv1).trans r1)
         replace r2 := (hb.cell (p := ⟨g, off + 2, none⟩) (by first | exact hzv1 | (simp; omega))).trans (by first | exact r2 | exact (World.cell?_alloc_lt _ _ ⟨g, off + 2, none⟩ hzv1).trans r2)
         replace r3 := (hb.cell (p := ⟨g, off + 3, none⟩) (by first | exact hzv1 | (simp; omega))).trans (by first | exact r3 | exact (World.cell?_alloc_lt _ _ ⟨g, off + 3, none⟩ hzv1).trans r3)
         have HBv2 := hide (HBv1.out.trans (hb.mono HBv1.out.size))
         have hzv2 : g < v2.heap.size := by have := hb.size; first | omega | (simp at this; omega)
         clear hb)
      | (go_at_call_of 48 (Value.int .i64 h)
         refine (spec_dec h _ i2).mono ?_
         rintro e v3 ⟨rfl, hb⟩
         rw [E3.out]
         replace r0 := (hb.cell (p := ⟨g, off, none⟩) (by first | exact hzv2 | (simp; omega))).trans (by first | exact r0 | exact (World.cell?_alloc_lt _ _ ⟨g, off, none⟩ hzv2).trans r0)
         replace r1 := (hb.cell (p := ⟨g, off + 1, none⟩) (by first | exact hzv2 | (simp; omega))).trans (by first | exact r1 | exact (World.cell?_alloc_lt _ _ ⟨g, off + 1, none⟩ hzv2).trans r1)
         replace r2 := (hb.cell (p := ⟨g, off + 2, none⟩) (by first | exact hzv2 | (simp; omega))).trans (by first | exact r2 | exact (World.cell?_alloc_lt _ _ ⟨g, off + 2, none⟩ hzv2).trans r2)
         replace r3 := (hb.cell (p := ⟨g, off + 3, none⟩) (by first | exact hzv2 | (simp; omega))).trans (by first | exact r3 | exact (World.cell?_alloc_lt _ _ ⟨g, off + 3, none⟩ hzv2).trans r3)
         have HBv3 := hide (HBv2.out.trans (hb.mono HBv2.out.size))
         have hzv3 : g < v3.heap.size := by have := hb.size; first | omega | (simp at this; omega)
         clear hb)
      | (go_at_call_of 48 (Value.int .i64 j)
         refine (spec_dec j _ i3).mono ?_
         rintro e v4 ⟨rfl, hb⟩
         rw [E4.out]
         replace r0 := (hb.cell (p := ⟨g, off, none⟩) (by first | exact hzv3 | (simp; omega))).trans (by first | exact r0 | exact (World.cell?_alloc_lt _ _ ⟨g, off, none⟩ hzv3).trans r0)
         replace r1 := (hb.cell (p := ⟨g, off + 1, none⟩) (by first | exact hzv3 | (simp; omega))).trans (by first | exact r1 | exact (World.cell?_alloc_lt _ _ ⟨g, off + 1, none⟩ hzv3).trans r1)
         replace r2 := (hb.cell (p := ⟨g, off + 2, none⟩) (by first | exact hzv3 | (simp; omega))).trans (by first | exact r2 | exact (World.cell?_alloc_lt _ _ ⟨g, off + 2, none⟩ hzv3).trans r2)
         replace r3 := (hb.cell (p := ⟨g, off + 3, none⟩) (by first | exact hzv3 | (simp; omega))).trans (by first | exact r3 | exact (World.cell?_alloc_lt _ _ ⟨g, off + 3, none⟩ hzv3).trans r3)
         have HBv4 := hide (HBv3.out.trans (hb.mono HBv3.out.size))
         have hzv4 : g < v4.heap.size := by have := hb.size; first | omega | (simp at this; omega)
         clear hb))
  go_wp2
  go_ret
  exact ⟨rfl, HBv4.out⟩
theorem spec_formatText (l wd h j : Int) (w : World) :
    Calls Tryd.prog 19 #[.agg #[.int .i64 l, .int .i64 wd, .int .i64 h, .int .i64 j]] w fun e w' => e = .returned (.string (fmtT l wd h j)) ∧ Below w.heap.size w w' := by
  have HB0 := hide ((Below.refl w.heap.size w).alloc (Nat.le_refl _) (.cells #[.int .i64 l, .int .i64 wd, .int .i64 h, .int .i64 j] 34))
  cases hb : fmtB l wd h j with
  | false =>
    rw [fmtT_no hb]
    have HV := hide hb
    clear hb
    go_enter Tryd.func19, Tryd.ntmps19
    go_wp2_with fail
    refine (spec_l02Ok _ _ _ _ _).mono ?_
    rintro e w1 ⟨rfl, hb1⟩
    rw [HV.out]
    have HB1 := hide (HB0.out.trans (hb1.mono (by simp)))
    clear hb1
    go_wp2
    go_ret
    exact ⟨rfl, HB1.out⟩
  | true =>
    obtain ⟨i0, i1, i2, i3⟩ := fmt_bd hb
    rw [fmtT_yes hb]
    have HV := hide hb
    clear hb
    go_enter Tryd.func19, Tryd.ntmps19
    go_wp2_with fail
    refine (spec_l02Ok _ _ _ _ _).mono ?_
    rintro e w1 ⟨rfl, hb⟩
    rw [HV.out]
    have HB1 := hide (HB0.out.trans (hb.mono (by simp)))
    have r0 := (hb.cell (p := ⟨w.heap.size, 0, none⟩) (by simp)).trans (show _ = some (.int .i64 l) from by simp [go_sem])
    have r1 := (hb.cell (p := ⟨w.heap.size, 1, none⟩) (by simp)).trans (show _ = some (.int .i64 wd) from by simp [go_sem])
    have r2 := (hb.cell (p := ⟨w.heap.size, 2, none⟩) (by simp)).trans (show _ = some (.int .i64 h) from by simp [go_sem])
    have r3 := (hb.cell (p := ⟨w.heap.size, 3, none⟩) (by simp)).trans (show _ = some (.int .i64 j) from by simp [go_sem])
    clear hb
    go_wp2_with fail
    refine (spec_l02Text l wd h j _ i0 i1 i2 i3).mono ?_
    rintro e w2 ⟨rfl, hb⟩
    have HB2 := hide (HB1.out.trans (hb.mono HB1.out.size))
    clear hb
    go_wp2
    go_ret
    exact ⟨rfl, HB2.out⟩
theorem spec_mouldText (l wd h j : Int) (w : World) :
    Calls Tryd.prog 22 #[.agg #[.int .i64 l, .int .i64 wd, .int .i64 h, .int .i64 j]] w fun e w' => e = .returned (.string (mldT l wd h j)) ∧ Below w.heap.size w w' := by
  obtain ⟨u, hu⟩ : ∃ u, w.alloc (.cells #[.int .i64 l, .int .i64 wd, .int .i64 h, .int .i64 j] 40) = u := ⟨_, rfl⟩
  have HB0 := hide (show Below w.heap.size w u from by rw [← hu]; exact (Below.refl _ _).alloc (Nat.le_refl _) _)
  have r0 : u.cell? ⟨w.heap.size, 0, none⟩ = some (.int .i64 l) := by rw [← hu]; simp [go_sem]
  have r1 : u.cell? ⟨w.heap.size, 1, none⟩ = some (.int .i64 wd) := by rw [← hu]; simp [go_sem]
  have r2 : u.cell? ⟨w.heap.size, 2, none⟩ = some (.int .i64 h) := by rw [← hu]; simp [go_sem]
  have r3 : u.cell? ⟨w.heap.size, 3, none⟩ = some (.int .i64 j) := by rw [← hu]; simp [go_sem]
  have HU := hide hu
  clear hu
  cases hb : mldB l wd h j with
  | false =>
    rw [mldT_no hb]
    have HV := hide hb
    clear hb
    go_enter Tryd.func22, Tryd.ntmps22
    go_wp2_with fail
    rw [HU.out]
    refine (spec_l05One l wd h j w.heap.size 0 _ r0 r1 r2 r3).mono ?_
    rintro e w1 ⟨rfl, rfl⟩
    rw [mldB_ok, HV.out]
    go_wp2
    go_ret
    exact ⟨rfl, HB0.out⟩
  | true =>
    obtain ⟨i0, i1, i2, i3⟩ := mld_bd hb
    rw [mldT_yes hb]
    have HV := hide hb
    clear hb
    go_enter Tryd.func22, Tryd.ntmps22
    go_wp2_with fail
    rw [HU.out]
    refine (spec_l05One l wd h j w.heap.size 0 _ r0 r1 r2 r3).mono ?_
    rintro e w1 ⟨rfl, rfl⟩
    rw [mldB_ok, HV.out]
    go_wp2_with fail
    refine (spec_l05Text l wd h j w.heap.size 0 _ i0 i1 i2 i3 r0 r1 r2 r3).mono ?_
    rintro e w2 ⟨rfl, hb⟩
    have HB2 := hide (HB0.out.trans (hb.mono HB0.out.size))
    clear hb
    go_wp2
    go_ret
    exact ⟨rfl, HB2.out⟩
end Go.Proofs.YtjoepnmmcagggaaDoor
