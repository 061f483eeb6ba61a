/- What the law ConnWrites does: it answers true. No condition but that its arguments read as slices of texts and of numbers. -/
import Derived.Test.YtnlabbclmngphaaGreatDoorShownB
import Derived.Test.YtnlabbclmngphaaGreatDoorLawEnds
namespace Go.Proofs.YtnlabbclmngphaaGreatDoor
open Go.RowKit
set_option linter.unusedSimpArgs false
set_option linter.unusedVariables false
attribute [local go_sem ↓] run_min2 run_max2

/-- A slice of numbers that reads as zs. -/
def Ints (w : World) (v : Value) (zs : List Int) : Prop :=
  ∃ a cap, v = .slice a zs.length cap ∧ zs.length ≤ cap ∧ cap ≤ maxLen ∧ (zs = [] ∨ ∃ g off, a = some ⟨g, off, none⟩ ∧ ∀ (j : Nat) z, zs[j]? = some z → w.cell? ⟨g, off + j, none⟩ = some (.int .i64 z))
/-- What a slice of texts tells of one of its cells, in a later world. -/
theorem Strs.at {w w' : World} {a : Option Addr} {n cap : Nat} {xs : List (List UInt8)} (h : Strs w (.slice a n cap) xs) (k : Kept w w') {i : Nat} {x : List UInt8} (hi : xs[i]? = some x) :
    ∃ b off, a = some ⟨b, off, none⟩ ∧ n = xs.length ∧ n ≤ cap ∧ cap ≤ maxLen ∧ b < w.heap.size ∧ w'.cell? ⟨b, off + i, none⟩ = some (.string (bs x)) := by
  obtain ⟨a', cap', he, h1, h2, h3⟩ := h
  injection he with ha hn hc
  subst ha hn hc
  rcases h3 with rfl | ⟨b, off, rfl, h3⟩
  · simp at hi
  · have := h3 i x hi
    exact ⟨b, off, rfl, rfl, h1, h2, World.block_lt_of_cell? w _ this, cell_only this k id⟩
theorem Ints.at {w w' : World} {a : Option Addr} {n cap : Nat} {xs : List Int} (h : Ints w (.slice a n cap) xs) (k : Kept w w') {i : Nat} {x : Int} (hi : xs[i]? = some x) :
    ∃ b off, a = some ⟨b, off, none⟩ ∧ n = xs.length ∧ n ≤ cap ∧ cap ≤ maxLen ∧ b < w.heap.size ∧ w'.cell? ⟨b, off + i, none⟩ = some (.int .i64 x) := by
  obtain ⟨a', cap', he, h1, h2, h3⟩ := h
  injection he with ha hn hc
  subst ha hn hc
  rcases h3 with rfl | ⟨b, off, rfl, h3⟩
  · simp at hi
  · have := h3 i x hi
    exact ⟨b, off, rfl, rfl, h1, h2, World.block_lt_of_cell? w _ this, cell_only this k id⟩

set_option maxRecDepth 100000 in
set_option maxHeartbeats 2000000 in
theorem connWrites_walk (w : World) (v1 v2 : Value) (xs : List (List UInt8)) (zs : List Int) (h1 : Strs w v1 xs) (h2 : Ints w v2 zs) : Calls Tryz.prog 5 #[v1, v2] w fun e w' => e = .returned (.bool true) ∧ Kept w w' := by
  obtain ⟨a1, cap1, rfl, -, hm1, -⟩ := id h1
  obtain ⟨a2, cap2, rfl, -, hm2, -⟩ := id h2
  have H1 := Lib.hid h1; have H2 := Lib.hid h2
  clear h1 h2 hm1 hm2
  go_enter Tryz.func5, Tryz.ntmps5
  go_wp2_with fail
  refine (shown_calls _).mono ?_
  rintro e w0 ⟨rfl, hk0⟩
  go_wp2_with fail
  refine (conn_new _).mono ?_
  rintro e w1 ⟨rfl, hc, hk1, hs1⟩
  obtain ⟨g, hg⟩ : ∃ g, w0.heap.size = g := ⟨_, rfl⟩
  rw [hg] at hc hs1 ⊢
  have hwg : w.heap.size ≤ g := by have := hk0.size; omega
  have HC := Lib.hid hc; have HK0 := Lib.hid hk0; have HK1 := Lib.hid hk1; have HG := Lib.hid hg; have HS1 := Lib.hid hs1
  clear hc hk0 hk1 hg hs1
  go_wp2_with fail
  go_loopw [7, 8, 9] (fun va vo i wr => ∃ (k : Nat) (A O B : ByteArray), k ≤ xs.length ∧ k ≤ 60 ∧ i = .int .i64 k ∧ va = .string A ∧ vo = .string O ∧ Hid (O ++ B = A) ∧ Hid (A.size ≤ 3000 * k) ∧
      Hid (wr.heap[g]? = some (connObj ⟨#[]⟩ B 0 false)) ∧ Hid (Only (fun i => i = g) w1 wr))
    (fun _ _ i _ => xs.length - (intOf i).toNat)
  case atStart => exact ⟨0, ⟨#[]⟩, ⟨#[]⟩, ⟨#[]⟩, Nat.zero_le _, by omega, rfl, rfl, rfl, rfl, Nat.le_refl 0, HC.out, Only.refl _ _⟩
  case round =>
    obtain ⟨k, A, O, B, hkl, hk60, rfl, rfl, rfl, hOB, hA, hgc, hO⟩ := hrel
    by_cases hlt : k < xs.length ∧ k < 60
    · obtain ⟨hl1, hl2⟩ := hlt
      obtain ⟨x, hx⟩ : ∃ x, xs[k] = x := ⟨_, rfl⟩
      have hKwr : Kept w wr := (HK0.out.trans HK1.out).then hO.out (fun i hi e => by omega)
      obtain ⟨b1, o1, rfl, -, hc1, hmx1, hb1, hcell⟩ := H1.out.at hKwr (List.getElem?_eq_getElem hl1)
      obtain ⟨S0, hS0⟩ : ∃ S0, bs x = S0 := ⟨_, rfl⟩
      rw [hx, hS0] at hcell
      have hOBs : O.size + B.size = A.size := by rw [← hOB.out, ByteArray.size_append]
      have hAs := hA.out
      have HOB := Lib.hid hOB.out; have HGC := Lib.hid hgc.out; have HO := Lib.hid hO.out; have HKW := Lib.hid hKwr; have HSZ := Lib.hid hOBs; have HAS := Lib.hid hAs
      clear hOB hA hgc hO hKwr hOBs hAs hx hS0
      by_cases h3k : 3000 < (S0.size : Int)
      · by_cases hz : k < zs.length
        · obtain ⟨S, hS⟩ : ∃ S, S0.extract 0 3000 = S := ⟨_, rfl⟩
          have hXs : (S).size ≤ 3000 := by rw [← hS, extract_take, size_bs, List.length_take]; omega
          have hAX : A.size + S.size ≤ 9223372036854775807 := by have := HAS.out; omega
          have HXS := Lib.hid hXs
          clear hXs
          go_wp2_with fail
          refine (conn_put wr g _ _ _ _ (S) HGC.out (by have := HSZ.out; have := HAS.out; have := HXS.out; omega)).mono ?_
          rintro e w2 ⟨rfl, h2, ho2⟩
          obtain ⟨b2, o2, rfl, -, hc2, hmx2, hb2, hcell2⟩ := H2.out.at (HKW.out.then ho2 (fun i hi e => by omega)) (List.getElem?_eq_getElem hz)
          obtain ⟨z, hzz⟩ : ∃ z, zs[k] = z := ⟨_, rfl⟩
          rw [hzz] at hcell2
          have H2' := Lib.hid h2; have HO2 := Lib.hid ho2
          clear h2 ho2 hzz
          go_wp2_with fail
          refine (conn_write w2 g _ _ _ _ z H2'.out).mono ?_
          rintro e w3 ⟨rfl, h3, ho3⟩
          have hcell3 := cell_only hcell2 ho3 (show ¬ b2 = g by omega)
          obtain ⟨m, hm⟩ : ∃ m, cutN z (B ++ (S)) = m := ⟨_, rfl⟩
          obtain ⟨t, ht⟩ : ∃ t, (B ++ (S)).extract 0 m = t := ⟨_, rfl⟩
          rw [hm] at h3 ⊢
          rw [ht]
          have hml : m ≤ (B ++ (S)).size := by rw [← hm]; exact cutN_le _ _
          have hOt : O.size + t.size ≤ 9223372036854775807 := by
            have h1 : t.size ≤ (B ++ (S)).size := by rw [← ht, extract_take, size_bs, List.length_take, tl_length]; omega
            rw [ByteArray.size_append] at h1
            have := HSZ.out; have := HAS.out; have := HXS.out; omega
          have hts : (t.size : Int) ≤ max 0 z := by
            rw [← ht, extract_take, size_bs, List.length_take, ← hm]; unfold cutN; omega
          have hsp : t ++ (B ++ (S)).extract m (B ++ (S)).size = B ++ (S) := by
            apply tl_inj
            rw [tl_append, ← ht, extract_take, extract_drop, tl_bs, tl_bs, List.take_append_drop]
          have H3' := Lib.hid h3; have HO3 := Lib.hid ho3; have HSP := Lib.hid hsp
          clear h3 ho3 hm ht hml hcell2 hsp
          go_wp2_with fail
          go_roundw
          case rel =>
            refine ⟨k + 1, A ++ (S), O ++ t, _, by omega, by omega, by go_num, rfl, rfl, ?_, ?_, H3'.out, (HO.out.trans HO2.out).trans HO3.out⟩
            · show (O ++ t) ++ (B ++ (S)).extract m (B ++ (S)).size = _
              rw [ByteArray.append_assoc, HSP.out, ← ByteArray.append_assoc, HOB.out]
            · show (A ++ (S)).size ≤ _
              rw [ByteArray.size_append]; have := HAS.out; have := HXS.out; omega
          case measure => simp [intOf]; omega
        · obtain ⟨S, hS⟩ : ∃ S, S0.extract 0 3000 = S := ⟨_, rfl⟩
          have hXs : (S).size ≤ 3000 := by rw [← hS, extract_take, size_bs, List.length_take]; omega
          have hAX : A.size + S.size ≤ 9223372036854775807 := by have := HAS.out; omega
          have HXS := Lib.hid hXs
          clear hXs
          go_wp2_with fail
          refine (conn_put wr g _ _ _ _ (S) HGC.out (by have := HSZ.out; have := HAS.out; have := HXS.out; omega)).mono ?_
          rintro e w2 ⟨rfl, h2, ho2⟩
          have H2' := Lib.hid h2; have HO2 := Lib.hid ho2
          clear h2 ho2
          go_wp2_with fail
          go_roundw
          case rel =>
            refine ⟨k + 1, A ++ (S), O, B ++ (S), by omega, by omega, by go_num, rfl, rfl, ?_, ?_, H2'.out, HO.out.trans HO2.out⟩
            · show O ++ (B ++ (S)) = _
              rw [← ByteArray.append_assoc, HOB.out]
            · show (A ++ (S)).size ≤ _
              rw [ByteArray.size_append]; have := HAS.out; have := HXS.out; omega
          case measure => simp [intOf]; omega
      · have h3n : (S0.size : Int) ≤ 3000 := by omega
        by_cases hz : k < zs.length
        · have hXs : (S0).size ≤ 3000 := by omega
          have hAX : A.size + S0.size ≤ 9223372036854775807 := by have := HAS.out; omega
          have HXS := Lib.hid hXs
          clear hXs
          go_wp2_with fail
          refine (conn_put wr g _ _ _ _ (S0) HGC.out (by have := HSZ.out; have := HAS.out; have := HXS.out; omega)).mono ?_
          rintro e w2 ⟨rfl, h2, ho2⟩
          obtain ⟨b2, o2, rfl, -, hc2, hmx2, hb2, hcell2⟩ := H2.out.at (HKW.out.then ho2 (fun i hi e => by omega)) (List.getElem?_eq_getElem hz)
          obtain ⟨z, hzz⟩ : ∃ z, zs[k] = z := ⟨_, rfl⟩
          rw [hzz] at hcell2
          have H2' := Lib.hid h2; have HO2 := Lib.hid ho2
          clear h2 ho2 hzz
          go_wp2_with fail
          refine (conn_write w2 g _ _ _ _ z H2'.out).mono ?_
          rintro e w3 ⟨rfl, h3, ho3⟩
          have hcell3 := cell_only hcell2 ho3 (show ¬ b2 = g by omega)
          obtain ⟨m, hm⟩ : ∃ m, cutN z (B ++ (S0)) = m := ⟨_, rfl⟩
          obtain ⟨t, ht⟩ : ∃ t, (B ++ (S0)).extract 0 m = t := ⟨_, rfl⟩
          rw [hm] at h3 ⊢
          rw [ht]
          have hml : m ≤ (B ++ (S0)).size := by rw [← hm]; exact cutN_le _ _
          have hOt : O.size + t.size ≤ 9223372036854775807 := by
            have h1 : t.size ≤ (B ++ (S0)).size := by rw [← ht, extract_take, size_bs, List.length_take, tl_length]; omega
            rw [ByteArray.size_append] at h1
            have := HSZ.out; have := HAS.out; have := HXS.out; omega
          have hts : (t.size : Int) ≤ max 0 z := by
            rw [← ht, extract_take, size_bs, List.length_take, ← hm]; unfold cutN; omega
          have hsp : t ++ (B ++ (S0)).extract m (B ++ (S0)).size = B ++ (S0) := by
            apply tl_inj
            rw [tl_append, ← ht, extract_take, extract_drop, tl_bs, tl_bs, List.take_append_drop]
          have H3' := Lib.hid h3; have HO3 := Lib.hid ho3; have HSP := Lib.hid hsp
          clear h3 ho3 hm ht hml hcell2 hsp
          go_wp2_with fail
          go_roundw
          case rel =>
            refine ⟨k + 1, A ++ (S0), O ++ t, _, by omega, by omega, by go_num, rfl, rfl, ?_, ?_, H3'.out, (HO.out.trans HO2.out).trans HO3.out⟩
            · show (O ++ t) ++ (B ++ (S0)).extract m (B ++ (S0)).size = _
              rw [ByteArray.append_assoc, HSP.out, ← ByteArray.append_assoc, HOB.out]
            · show (A ++ (S0)).size ≤ _
              rw [ByteArray.size_append]; have := HAS.out; have := HXS.out; omega
          case measure => simp [intOf]; omega
        · have hXs : (S0).size ≤ 3000 := by omega
          have hAX : A.size + S0.size ≤ 9223372036854775807 := by have := HAS.out; omega
          have HXS := Lib.hid hXs
          clear hXs
          go_wp2_with fail
          refine (conn_put wr g _ _ _ _ (S0) HGC.out (by have := HSZ.out; have := HAS.out; have := HXS.out; omega)).mono ?_
          rintro e w2 ⟨rfl, h2, ho2⟩
          have H2' := Lib.hid h2; have HO2 := Lib.hid ho2
          clear h2 ho2
          go_wp2_with fail
          go_roundw
          case rel =>
            refine ⟨k + 1, A ++ (S0), O, B ++ (S0), by omega, by omega, by go_num, rfl, rfl, ?_, ?_, H2'.out, HO.out.trans HO2.out⟩
            · show O ++ (B ++ (S0)) = _
              rw [← ByteArray.append_assoc, HOB.out]
            · show (A ++ (S0)).size ≤ _
              rw [ByteArray.size_append]; have := HAS.out; have := HXS.out; omega
          case measure => simp [intOf]; omega
    · by_cases hkx : k < xs.length
      · have hk : k = 60 := by omega
        subst hk
        have hOBs : (B.size : Int) = (A.size : Int) - (O.size : Int) := by rw [← hOB.out, ByteArray.size_append]; omega
        have hA18 : A.size ≤ 180000 := by have := hA.out; omega
        have hOA : O.size ≤ A.size := by omega
        have hOBm : O.size + B.size ≤ 9223372036854775807 := by omega
        have HOBS := Lib.hid hOBs
        have HOB := Lib.hid hOB.out; have HGC := Lib.hid hgc.out; have HO := Lib.hid hO.out
        clear hOB hA hgc hO hOBs
        go_wp2_with fail
        refine (conn_sizes wr g _ _ _ _ HGC.out).mono ?_
        rintro e w2 ⟨rfl, n2, rfl⟩
        rw [HOBS.out]
        go_wp2_with fail
        refine (conn_write _ g _ _ _ _ ((A.size : Int) - O.size) (blk_drewN HGC.out n2)).mono ?_
        rintro e w3 ⟨rfl, h3, ho3⟩
        have hcut : cutN ((A.size : Int) - O.size) B = B.size := by have := HOBS.out; unfold cutN; omega
        rw [hcut, extract_all]
        have hob := HOB.out
        go_wp2_with fail
        go_ret
        refine ⟨rfl, ?_⟩
        exact (HK0.out.trans HK1.out).then ((HO.out.drewN n2).trans ho3) (fun i hi e => by omega)
      · have hk : k = xs.length := by omega
        subst hk
        have hOBs : (B.size : Int) = (A.size : Int) - (O.size : Int) := by rw [← hOB.out, ByteArray.size_append]; omega
        have hA18 : A.size ≤ 180000 := by have := hA.out; omega
        have hOA : O.size ≤ A.size := by omega
        have hOBm : O.size + B.size ≤ 9223372036854775807 := by omega
        have HOBS := Lib.hid hOBs
        have HOB := Lib.hid hOB.out; have HGC := Lib.hid hgc.out; have HO := Lib.hid hO.out
        clear hOB hA hgc hO hOBs
        go_wp2_with fail
        refine (conn_sizes wr g _ _ _ _ HGC.out).mono ?_
        rintro e w2 ⟨rfl, n2, rfl⟩
        rw [HOBS.out]
        go_wp2_with fail
        refine (conn_write _ g _ _ _ _ ((A.size : Int) - O.size) (blk_drewN HGC.out n2)).mono ?_
        rintro e w3 ⟨rfl, h3, ho3⟩
        have hcut : cutN ((A.size : Int) - O.size) B = B.size := by have := HOBS.out; unfold cutN; omega
        rw [hcut, extract_all]
        have hob := HOB.out
        go_wp2_with fail
        go_ret
        refine ⟨rfl, ?_⟩
        exact (HK0.out.trans HK1.out).then ((HO.out.drewN n2).trans ho3) (fun i hi e => by omega)
end Go.Proofs.YtnlabbclmngphaaGreatDoor
