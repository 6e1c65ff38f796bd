/-
  What is proved: three numbers written with a byte between them, and read back, by the program. Conditions: lengths that fit; the library's own variables hold what they are laid with.
-/
import Derived.Test.YtjoepnmmcagggaaDoorNum
import Derived.Test.YtjoepnmmcagggaaDoorTextP
import Derived.Test.YtjoepnmmcagggaaDoorLibN
namespace Go.Proofs.YtjoepnmmcagggaaDoor
open Go.RowKit Go.PlainAid
set_option linter.unusedVariables false

theorem info_Int : (Tryd.prog.info? 2).map (fun i => (i.zero, i.size, i.bytes)) = some (some (.int .i64 0), 1, 8) := by kernel_rfl
theorem decB_size (n : Int) (h : I64 n) : (decB n).size ≤ 20 := by
  unfold decB
  rw [ba_size']
  exact itoa_size n h.1 h.2
theorem sizes_size (x y z : Int) (h0 : I64 x) (h1 : I64 y) (h2 : I64 z) : (ba (sizesT x y z)).size ≤ 62 := by
  rw [ba_size']
  have a := itoa_size x h0.1 h0.2
  have b := itoa_size y h1.1 h1.2
  have c := itoa_size z h2.1 h2.2
  unfold sizesT
  simp
  omega
theorem join_sizes (x y z : Int) : Lib.join (([decB x, decB y, decB z] : List ByteArray).map (·.data.toList)) [120] = sizesT x y z := by
  simp [Lib.join, decB, ba_data, sizesT, List.intercalate, List.intersperse]
set_option maxRecDepth 100000 in
set_option maxHeartbeats 2000000 in
theorem impl_nums3 (x y z : Int) (b off c : Nat) (w : World) (hr : Row encI 1 w (some ⟨b, off, none⟩) [x, y, z]) (h0 : I64 x) (h1 : I64 y) (h2 : I64 z) (hp : Pow10 w) :
    Calls Tryd.prog 56 #[.string ⟨#[120]⟩, .slice (some ⟨b, off, none⟩) 3 c] w fun e w' => e = .returned (.string (ba (sizesT x y z))) ∧ Below w.heap.size w w' := by
  obtain ⟨i0, hi, hz0, hz1, hz2⟩ := info_parts info_Str
  have HI := hide hi
  have HZ0 := hide hz0
  have HZ1 := hide hz1
  have HZ2 := hide hz2
  have HR := hide hr
  have HP := hide hp
  have HIz := hide (show ∀ (k : Nat) (v : Int), [x, y, z][k]? = some v → I64 v from fun k v hv => by
    match k, hv with
    | 0, hv => obtain rfl := Option.some.inj hv; exact h0
    | 1, hv => obtain rfl := Option.some.inj hv; exact h1
    | 2, hv => obtain rfl := Option.some.inj hv; exact h2)
  have HJ := hide (join_sizes x y z)
  have hjs := sizes_size x y z h0 h1 h2
  obtain ⟨zs, hzs⟩ : ∃ zs, [x, y, z] = zs := ⟨_, rfl⟩
  have HL := hide (show zs.length = 3 from by rw [← hzs]; rfl)
  have HS := hide hzs
  clear hi hz0 hz1 hz2 hr hp h0 h1 h2 hzs
  go_enter Tryd.func56, Tryd.ntmps56
  go_wp2
  go_loopw [5, 11] (fun v i wr => ∃ k : Nat, k ≤ 3 ∧ i = .int .i64 k ∧ Hid (wr.ownsRow w.heap.size 9 1 v k (flat encS ((zs.take k).map decB))) ∧ Hid (Below w.heap.size w wr)) (fun _ i _ => 3 - (intOf i).toNat)
  case atStart => exact ⟨0, by omega, rfl, hide (own_empty w _ _ _ (Nat.le_refl _)), hide ((Below.refl _ _).alloc (Nat.le_refl _) _)⟩
  case round =>
    obtain ⟨k, hk, rfl, HO, HB⟩ := hrel
    have hz := HB.out.size
    by_cases hlt : k < 3
    · obtain ⟨v, hvk⟩ : ∃ v, zs[k]? = some v := ⟨zs[k]'(by have := HL.out; omega), List.getElem?_eq_getElem _⟩
      have HV := hide (HIz.out k v (by rw [HS.out]; exact hvk))
      have HR1 := HR.out.below HB.out
      rw [HS.out] at HR1
      obtain ⟨b1, off1, e1, hb1, a0⟩ := row_at_1 HR1 hvk rfl
      obtain ⟨rfl, rfl⟩ : b1 = b ∧ off1 = off := by injection e1 with e1; injection e1 with e1 e2 e3; exact ⟨e1.symm, e2.symm⟩
      have HT := hide (show (zs.take (k + 1)).map decB = (zs.take k).map decB ++ [decB v] from by rw [List.take_add_one, hvk, List.map_append]; rfl)
      have hki : (k : Int) < 3 := by omega
      have htl : ((zs.take k).map decB).length = k := by rw [List.length_map, List.length_take, HL.out]; omega
      have HTL := hide htl
      clear hvk e1 HR1 htl
      go_wp2_with fail
      refine (impl_dec v _ HV.out (HP.out.below HB.out)).mono ?_
      rintro e w2 ⟨rfl, hb2⟩
      have HB2 := hide (HB.out.trans (hb2.mono hz))
      have HO2 := hide (own_below HO.out hb2)
      have hz2 : w.heap.size ≤ w2.heap.size := HB2.out.size
      clear hb2
      go_wp2_with (at_builtin; refine wpList_append_own _ rfl _ _ 43 rfl w.heap.size 9 i0 (.string ⟨#[]⟩) 1 16 Tryd.underlying43 HI.out HZ0.out HZ1.out HZ2.out rfl (by decide) _ _ _ rfl (HO2.out.alloc _) ⟨w2.heap.size, 0, none⟩ 1 1 [.string (decB v)] rfl rfl (cell_one_new _ _ _) (fun x hx => by simp at hx; subst hx; rfl) (by unfold maxLen; omega) (by omega) (by simp; omega) ?_; intro v' w3 hown' hgrow hnil)
      have HO' := hide (show w3.ownsRow w.heap.size 9 1 v' (k + 1) (flat encS ((zs.take (k + 1)).map decB)) from by rw [HT.out, ← flatS_push]; exact hown')
      have HB' := hide (below_push2 HB2.out (Nat.le_refl _) HO2.out hgrow)
      clear hown' hgrow hnil
      go_roundw
      case rel => exact ⟨k + 1, by omega, by go_num, HO', HB'⟩
      case measure => simp [intOf]; omega
    · obtain rfl : k = 3 := by omega
      have hown := HO.out
      rw [List.take_of_length_le (by rw [HL.out]; exact Nat.le_refl _), ← HS.out] at hown
      obtain ⟨A', c', rfl, ho⟩ := Own.of_row (xs := [decB x, decB y, decB z]) rfl hown HB.out.size
      have hrow := ho.row (k := 1) (enc := encS) (fun _ => rfl)
      rcases ho.head with ⟨_, h3, _⟩ | ⟨g, rfl, hg1, hg2⟩
      · cases h3
      have hcc : 3 ≤ c' := by
        rcases hown.2 with ⟨hv, _⟩ | ⟨g', cap, cur, hv, _, _, hle, _⟩
        · cases hv
        · injection hv with _ _ hc
          omega
      have HC := hide (show ∀ (j : Nat) (s : ByteArray), [decB x, decB y, decB z][j]? = some s → wr.cell? ⟨g, 0 + j, none⟩ = some (.string s) from fun j s hs => by
        obtain ⟨b1, off1, e1, hb1, a0⟩ := row_at_1 hrow hs rfl
        obtain ⟨rfl, rfl⟩ : b1 = g ∧ off1 = 0 := by injection e1 with e1; injection e1 with e1 e2 e3; exact ⟨e1.symm, e2.symm⟩
        exact a0)
      clear hown ho hrow
      go_wp2_with fail
      refine (Tryd.strings_Join g 0 c' [decB x, decB y, decB z] ⟨#[120]⟩ _ HC.out hg2 (by simp) hcc (by rw [show (⟨#[120]⟩ : ByteArray).data.toList = [120] from rfl, HJ.out, ← ba_size']; omega)).mono ?_
      rintro e w2 ⟨rfl, hb2⟩
      have HB2 := hide (HB.out.trans (hb2.mono hz))
      have hres : (⟨(Lib.join (([decB x, decB y, decB z] : List ByteArray).map (·.data.toList)) (⟨#[120]⟩ : ByteArray).data.toList).toArray⟩ : ByteArray) = ba (sizesT x y z) := by
        rw [show (⟨#[120]⟩ : ByteArray).data.toList = [120] from rfl, HJ.out]
        rfl
      rw [hres]
      clear hb2 hres
      go_wp2
      go_ret
      exact ⟨rfl, HB2.out⟩
/-- What the program reads: three numbers, or none. -/
def NumsPost (l : List UInt8) (w : World) (e : Ending) (w' : World) : Prop :=
  Below w.heap.size w w' ∧ ((numsL 120 l = none ∧ e = .returned (.tuple #[.slice none 0 0, .bool false])) ∨ ∃ x y z g c, numsL 120 l = some [x, y, z] ∧ e = .returned (.tuple #[.slice (some ⟨g, 0, none⟩) 3 c, .bool true]) ∧ Own 2 1 encI w' w.heap.size w'.heap.size (some ⟨g, 0, none⟩) 3 c [x, y, z])
theorem splitK_min' {c : UInt8} (l : List UInt8) (n : Nat) : Lib.splitK [c] 0 (min (n + 1) (l.length + 1) - 1) l = Lib.splitK [c] 0 n l := by
  have h := spl_count c l
  rcases Nat.le_total n l.length with h1 | h1
  · rw [show min (n + 1) (l.length + 1) - 1 = n by omega]
  · rw [show min (n + 1) (l.length + 1) - 1 = l.length by omega, splitK_all (by omega), splitK_all (by omega)]
theorem row_cellsS' (w : World) (cs : Array Value) (xs : List ByteArray) (t : TypeId) (h : ∀ (i : Nat) (x : ByteArray), xs[i]? = some x → cs[i]? = some (.string x)) : Row encS 1 (w.alloc (.cells cs t)) (some ⟨w.heap.size, 0, none⟩) xs := fun _ => by
  refine ⟨w.heap.size, 0, rfl, by simp, fun i x hi j v hv => ?_⟩
  match j, hv with
  | 0, hv =>
    obtain rfl := Option.some.inj hv
    have := h i x hi
    simp [World.cell?_alloc_new, this]
theorem splitN_at (ch : UInt8) (s : ByteArray) (n : Nat) (w : World) (hs : s.size ≤ 16777216) (hm : MaxLenIs w) (hn : n ≤ 1000) :
    Calls Tryd.prog 90 #[.string s, .string ⟨#[ch]⟩, .int .i64 ((n + 1 : Nat) : Int)] w fun e w' => ∃ g c, e = .returned (.slice (some ⟨g, 0, none⟩) (Lib.splitK [ch] 0 n s.data.toList).length c) ∧ (Lib.splitK [ch] 0 n s.data.toList).length ≤ c ∧ Row encS 1 w' (some ⟨g, 0, none⟩) ((Lib.splitK [ch] 0 n s.data.toList).map ba) ∧ Below w.heap.size w w' := by
  obtain ⟨m, hm⟩ := hm
  have hds : s.data.toList.length = s.size := by simp
  refine (Tryd.strings_SplitN s ⟨#[ch]⟩ (n + 1) m w (by omega) hm (by show 1 ≤ 1; omega) (by omega) (by omega)).mono fun e w' ⟨he, hw⟩ => ?_
  have e1 : Lib.splitB ⟨#[ch]⟩ 0 (min (n + 1) (s.size + 1) - 1) s = (Lib.splitK [ch] 0 n s.data.toList).map ba := by
    apply map_ba
    rw [Lib.splitB_data, ← splitK_min' s.data.toList n, hds]
  rw [e1] at he hw
  have hl : (Lib.splitK [ch] 0 n s.data.toList).length ≤ min (n + 1) (s.size + 1) := by
    have h2 := splitK_le (c := ch) (k := min (n + 1) (s.size + 1) - 1) (l := s.data.toList)
    have h3 := splitK_min' (c := ch) s.data.toList n
    rw [hds] at h3
    rw [h3] at h2
    omega
  refine ⟨w.heap.size, min (n + 1) (s.size + 1), by rw [he, List.length_map], hl, ?_, ?_⟩
  · rw [hw]
    refine row_cellsS' w _ _ _ fun i x hx => ?_
    unfold Lib.cellsOf
    have hi := (List.getElem?_eq_some_iff.1 hx).1
    rw [List.getElem?_toArray, List.getElem?_append_left (by simpa using hi), List.getElem?_map, hx]
    rfl
  · rw [hw]
    exact (Below.refl _ _).alloc (Nat.le_refl _) _
theorem splitK_three {c : UInt8} {l : List UInt8} (h : (Lib.splitK [c] 0 3 l).length = 3) : Lib.splitK [c] 0 3 l = spl c l := by
  rcases Nat.lt_or_ge 4 (spl c l).length with h1 | h1
  · rw [splitK_few (by omega)] at h
    omega
  · exact splitK_all (by omega)
theorem splitK_not {c : UInt8} {l : List UInt8} (h : (Lib.splitK [c] 0 3 l).length ≠ 3) : (spl c l).length ≠ 3 := fun q => by
  rw [splitK_all (by omega)] at h
  exact h q
theorem numV_of {p : ByteArray} {v : Int} (h : numL p.data.toList = some v) : numV p = v ∧ numB p = true := num_yes h
theorem nums_take {c : UInt8} {l p q r : List UInt8} {a b d : Int} (h : spl c l = [p, q, r]) (h1 : numL p = some a) (h2 : numL q = some b) (h3 : numL r = some d) : numsL c l = some [a, b, d] := by
  unfold numsL
  rw [h]
  simp only [h1, h2, h3]
theorem spl_size {c : UInt8} {l p : List UInt8} (h : p ∈ spl c l) : p.length ≤ l.length := by
  induction hn : l.length using Nat.strongRecOn generalizing l with
  | ind n ih =>
    rcases spl_cases c l with ⟨h1, _⟩ | ⟨a, b, rfl, h1, _⟩
    · rw [spl_none h1] at h
      obtain rfl := List.mem_singleton.1 h
      omega
    · rw [spl_cut h1] at h
      rw [← hn]
      rcases List.mem_cons.1 h with rfl | h
      · simp
      · have := ih b.length (by rw [← hn]; simp; omega) h rfl
        simp
        omega
set_option maxRecDepth 100000 in
set_option maxHeartbeats 4000000 in
theorem impl_readNums (s : ByteArray) (w : World) (hs : s.size ≤ 16777216) (hm : MaxLenIs w) (hp : Pow10 w) (hy : ErrSyn w) :
    Calls Tryd.prog 70 #[.string s, .string ⟨#[120]⟩, .int .i64 3] w (NumsPost s.data.toList w) := by
  obtain ⟨i0, hi, hz0, hz1, hz2⟩ := info_parts info_Int
  have HI := hide hi
  have HZ0 := hide hz0
  have HZ1 := hide hz1
  have HZ2 := hide hz2
  have HM := hide hm
  have HP := hide hp
  have HY := hide hy
  clear hi hz0 hz1 hz2 hm hp hy
  obtain ⟨L, hL⟩ : ∃ L, Lib.splitK [120] 0 3 s.data.toList = L := ⟨_, rfl⟩
  have HL := hide hL
  by_cases h3 : L.length = 3
  · have hspl : spl 120 s.data.toList = L := by rw [← hL]; exact (splitK_three (by rw [hL]; exact h3)).symm
    have HSZ := hide (show ∀ p ∈ L, (ba p).size ≤ 16777216 from fun p hp => by
      rw [ba_size']
      have := spl_size (c := 120) (l := s.data.toList) (by rw [hspl]; exact hp)
      simp at this
      omega)
    have HSP := hide hspl
    have H3 := hide h3
    clear hL hspl h3
    go_enter Tryd.func70, Tryd.ntmps70
    go_wp2_with fail
    refine (splitN_at 120 s 3 _ hs HM.out (by omega)).mono ?_
    rintro e w1 ⟨g, c, rfl, hlc, hrow, hb1⟩
    rw [HL.out] at hlc hrow ⊢
    have HR := hide hrow
    have HB1 := hide hb1
    have hz1 := hb1.size
    rw [H3.out] at hlc ⊢
    clear hrow hb1
    go_wp2
    go_loopw [9, 26] (fun v i wr => ∃ (k : Nat) (F : List Int), k ≤ 3 ∧ i = .int .i64 k ∧ F.length = k ∧ Hid (∀ j p, j < k → L[j]? = some p → ∃ v, F[j]? = some v ∧ numL p = some v) ∧ Hid (wr.ownsRow w1.heap.size 2 1 v k (flat encI F)) ∧ Hid (Below w1.heap.size w1 wr)) (fun _ i _ => 3 - (intOf i).toNat)
    case atStart => exact ⟨0, [], by omega, rfl, rfl, hide (fun j p hj => absurd hj (by omega)), hide (own_empty w1 _ _ _ (Nat.le_refl _)), hide ((Below.refl _ _).alloc (Nat.le_refl _) _)⟩
    case round =>
      obtain ⟨k, F, hk, rfl, hF, HF, HO, HB⟩ := hrel
      have hz := HB.out.size
      by_cases hlt : k < 3
      · obtain ⟨p, hpk⟩ : ∃ p, L[k]? = some p := ⟨L[k]'(by have := H3.out; omega), List.getElem?_eq_getElem _⟩
        have hpk' : (L.map ba)[k]? = some (ba p) := by rw [List.getElem?_map, hpk]; rfl
        obtain ⟨b1, off1, e1, hb1, a0⟩ := row_at_1 (HR.out.below HB.out) hpk' rfl
        obtain ⟨rfl, rfl⟩ : b1 = g ∧ off1 = 0 := by injection e1 with e1; injection e1 with e1 e2 e3; exact ⟨e1.symm, e2.symm⟩
        rw [Nat.zero_add] at a0
        have hps := HSZ.out p (List.mem_of_getElem? hpk)
        have hki : (k : Int) < 3 := by omega
        have HBw := hide (HB1.out.trans (HB.out.mono hz1))
        have hpd : (ba p).data.toList = p := ba_data p
        cases hn : numL p with
        | none =>
          have HN := hide (nums_bad (c := 120) (l := s.data.toList) (i := k) (by rw [HSP.out]; exact hpk) hn)
          obtain ⟨v1, v2⟩ := num_no (s := ba p) (by rw [hpd]; exact hn)
          have HV1 := hide v1
          have HV2 := hide v2
          clear hpk hpk' e1 hn hpd v1 v2
          go_wp2_with fail
          refine (impl_readDec (ba p) _ hps (HP.out.below HBw.out) (HY.out.below HBw.out)).mono ?_
          rintro e w2 ⟨rfl, hb2⟩
          rw [HV1.out, HV2.out]
          have HB2 := hide (HBw.out.trans (hb2.mono HBw.out.size))
          clear hb2
          go_wp2
          go_ret2
          exact ⟨HB2.out, .inl ⟨HN.out, rfl⟩⟩
        | some v =>
          obtain ⟨v1, v2⟩ := num_yes (s := ba p) (n := v) (by rw [hpd]; exact hn)
          have HV1 := hide v1
          have HV2 := hide v2
          have HF' := hide (show ∀ j q, j < k + 1 → L[j]? = some q → ∃ u, (F ++ [v])[j]? = some u ∧ numL q = some u from fun j q hj hq => by
            rcases Nat.lt_or_ge j k with h1 | h1
            · obtain ⟨u, hu1, hu2⟩ := HF.out j q h1 hq
              exact ⟨u, by rw [List.getElem?_append_left (by omega)]; exact hu1, hu2⟩
            · obtain rfl : j = k := by omega
              rw [hpk] at hq
              obtain rfl := Option.some.inj hq
              exact ⟨v, by rw [List.getElem?_append_right (by omega)]; simp [hF], hn⟩)
          clear hpk hpk' e1 hn hpd v1 v2
          go_wp2_with fail
          refine (impl_readDec (ba p) _ hps (HP.out.below HBw.out) (HY.out.below HBw.out)).mono ?_
          rintro e w2 ⟨rfl, hb2⟩
          rw [HV1.out, HV2.out]
          have HB2 := hide (HB.out.trans (hb2.mono hz))
          have HO2 := hide (own_below HO.out hb2)
          have hz2 : w1.heap.size ≤ w2.heap.size := HB2.out.size
          clear hb2 a0
          go_wp2_with (at_builtin; refine wpList_append_own _ rfl _ _ 83 rfl w1.heap.size 2 i0 (.int .i64 0) 1 8 Tryd.underlying83 HI.out HZ0.out HZ1.out HZ2.out rfl (by decide) _ _ _ rfl (HO2.out.alloc _) ⟨w2.heap.size, 0, none⟩ 1 1 [.int .i64 v] rfl rfl (cell_one_new _ _ _) (fun x hx => by simp at hx; subst hx; rfl) (by unfold maxLen; omega) (by omega) (by simp; omega) ?_; intro v' w3 hown' hgrow hnil)
          have HO' := hide (show w3.ownsRow w1.heap.size 2 1 v' (k + 1) (flat encI (F ++ [v])) from by rw [← flatI_push]; exact hown')
          have HB' := hide (below_push2 HB2.out (Nat.le_refl _) HO2.out hgrow)
          clear hown' hgrow hnil
          go_roundw
          case rel => exact ⟨k + 1, F ++ [v], by omega, by go_num, by simp [hF], HF', HO', HB'⟩
          case measure => simp [intOf]; omega
      · obtain rfl : k = 3 := by omega
        obtain ⟨p, q, r, hpq⟩ : ∃ p q r, L = [p, q, r] := by
          match L, H3.out with
          | [p, q, r], _ => exact ⟨p, q, r, rfl⟩
        subst hpq
        obtain ⟨a, b, d, hab⟩ : ∃ a b d, F = [a, b, d] := by
          match F, hF with
          | [a, b, d], _ => exact ⟨a, b, d, rfl⟩
        subst hab
        have HN := hide (show numsL 120 s.data.toList = some [a, b, d] from by
          obtain ⟨u0, e0, n0⟩ := HF.out 0 p (by omega) rfl
          obtain ⟨u1, e1, n1⟩ := HF.out 1 q (by omega) rfl
          obtain ⟨u2, e2, n2⟩ := HF.out 2 r (by omega) rfl
          obtain rfl := Option.some.inj e0
          obtain rfl := Option.some.inj e1
          obtain rfl := Option.some.inj e2
          exact nums_take HSP.out n0 n1 n2)
        have HBw := hide (HB1.out.trans (HB.out.mono hz1))
        obtain ⟨A', c', rfl, ho⟩ := Own.of_row (xs := [a, b, d]) rfl HO.out HB.out.size
        rcases ho.head with ⟨_, h3, _⟩ | ⟨g2, rfl, hg1, hg2⟩
        · cases h3
        have HO2 := hide ho
        clear ho hF
        go_wp2
        go_ret2
        exact ⟨HBw.out, .inr ⟨a, b, d, g2, c', HN.out, rfl, ⟨rfl, own_lowS HO2.out.own hz1, HO2.out.up, HO2.out.hi_le⟩⟩⟩
  · have HN := hide (nums_count (c := 120) (l := s.data.toList) (splitK_not (by rw [hL]; exact h3)))
    have hd : ((L.length : Int) != 3) = true := by simp; omega
    have hd2 : ((L.length : Int) == 3) = false := by rw [beq_eq_false_iff_ne]; omega
    clear hL
    go_enter Tryd.func70, Tryd.ntmps70
    go_wp2_with fail
    refine (splitN_at 120 s 3 _ hs HM.out (by omega)).mono ?_
    rintro e w1 ⟨g, c, rfl, hlc, hrow, hb1⟩
    rw [HL.out] at hlc ⊢
    have HB1 := hide hb1
    clear hrow hb1 hlc
    go_wp2
    go_ret2
    exact ⟨HB1.out, .inl ⟨HN.out, rfl⟩⟩
end Go.Proofs.YtjoepnmmcagggaaDoor
