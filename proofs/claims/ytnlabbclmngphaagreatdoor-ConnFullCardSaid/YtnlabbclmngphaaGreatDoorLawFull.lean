/- What the law ConnFull does: it answers true. No condition but that its argument reads as a slice of numbers. -/
import Derived.Test.YtnlabbclmngphaaGreatDoorShownB
import Derived.Test.YtnlabbclmngphaaGreatDoorLawWrites
import Derived.Laws.BytesArg
import Derived.Laws.BitsLemmas
import Derived.Deep.OwnRows
namespace Go.Proofs.YtnlabbclmngphaaGreatDoor
open Go.RowKit
set_option linter.unusedSimpArgs false
set_option linter.unusedVariables false
attribute [local go_sem ↓] run_min2 run_max2

theorem mask15 (z : Int) : 0 ≤ bits .and .i64 z 32767 ∧ bits .and .i64 z 32767 ≤ 32767 := by
  have h : (BitVec.ofInt 64 z &&& BitVec.ofInt 64 32767).toNat ≤ 32767 := by
    rw [BitVec.toNat_and]
    exact Nat.le_trans Nat.and_le_right (by decide)
  have e : bits .and .i64 z 32767 = IntKind.i64.wrap ((BitVec.ofInt 64 z &&& BitVec.ofInt 64 32767).toNat : Int) := rfl
  rw [e]
  obtain ⟨n, hn⟩ : ∃ n, (BitVec.ofInt 64 z &&& BitVec.ofInt 64 32767).toNat = n := ⟨_, rfl⟩
  rw [hn] at h ⊢
  have : IntKind.i64.wrap (n : Int) = (n : Int) := by
    have hp : (2 : Int) ^ IntKind.i64.bits = 18446744073709551616 := by decide
    have hq : (2 : Int) ^ (IntKind.i64.bits - 1) = 9223372036854775808 := by decide
    have hs : IntKind.i64.signed = true := rfl
    simp only [IntKind.wrap, hp, hq, hs, Bool.true_and, decide_eq_true_eq]
    split <;> omega
  rw [this]; omega

theorem infoU8 : (Tryz.prog.info? 5).map (fun i => (i.zero, i.size, i.bytes)) = some (some (.int .u8 0), 1, 1) := by kernel_rfl

set_option maxRecDepth 100000 in
set_option maxHeartbeats 2000000 in
theorem connFull_walk (w : World) (v : Value) (xs : List Int) (h : Ints w v xs) : Calls Tryz.prog 6 #[v] w fun e w' => e = .returned (.bool true) ∧ Kept w w' := by
  obtain ⟨a1, cap1, rfl, -, hm1, -⟩ := id h
  have H1 := Lib.hid h
  clear h hm1
  go_enter Tryz.func6, Tryz.ntmps6
  go_wp2_with fail
  refine (shown_calls _).mono ?_
  rintro e w0 ⟨rfl, hk0⟩
  go_wp2_with fail
  refine (conn_new _).mono ?_
  rintro e w1 ⟨rfl, hc, hk1, hs1⟩
  obtain ⟨g, hg⟩ : ∃ g, w0.heap.size = g := ⟨_, rfl⟩
  rw [hg] at hc hs1 ⊢
  have hwg : w.heap.size ≤ g := by have := hk0.size; omega
  have HC := Lib.hid hc; have HK0 := Lib.hid hk0; have HK1 := Lib.hid hk1; have HG := Lib.hid hg; have HS1 := Lib.hid hs1
  clear hc hk0 hk1 hg hs1
  go_wp2_with fail
  go_loopw [5, 6] (fun va i wr => ∃ (k all : Nat), k ≤ xs.length ∧ k ≤ 30 ∧ i = .int .i64 k ∧ va = .int .i64 all ∧ all ≤ 70000 ∧ Hid (∃ I : ByteArray, I.size = all ∧ wr.heap[g]? = some (connObj I ⟨#[]⟩ 0 false)) ∧ Hid (Only (fun i => i = g) w1 wr))
    (fun _ i _ => xs.length - (intOf i).toNat)
  case atStart => exact ⟨0, 0, Nat.zero_le _, by omega, rfl, rfl, by omega, ⟨⟨#[]⟩, rfl, HC.out⟩, Only.refl _ _⟩
  case round =>
    obtain ⟨k, all, hkl, hk60, rfl, rfl, hall, hI, hO⟩ := hrel
    by_cases hlt : k < xs.length ∧ k < 30
    · obtain ⟨hl1, hl2⟩ := hlt
      obtain ⟨x, hx⟩ : ∃ x, xs[k] = x := ⟨_, rfl⟩
      have hKwr : Kept w wr := (HK0.out.trans HK1.out).then hO.out (fun i hi e => by omega)
      obtain ⟨b1, o1, rfl, -, hc1, hmx1, hb1, hcell⟩ := H1.out.at hKwr (List.getElem?_eq_getElem hl1)
      rw [hx] at hcell
      obtain ⟨m0, m1⟩ := mask15 x
      obtain ⟨n, hn⟩ : ∃ n : Nat, bits .and .i64 x 32767 = (n : Int) := ⟨_, (Int.toNat_of_nonneg m0).symm⟩
      rw [hn] at m1
      clear m0
      have HO := Lib.hid hO.out; have HI := Lib.hid hI.out
      clear hO hI hKwr hx
      have hmk := run_make_row' (P := Tryz.prog) 48 5 (.int .u8 0) 1 Tryz.underlying48 infoU8 rfl .i64 .i64 n (by omega) (by omega)
      go_wp2_with fail
      obtain ⟨W2, hW2⟩ : ∃ W2, wr.alloc (.cells (madeCells #[.int .u8 0] n) 5) = W2 := ⟨_, rfl⟩
      rw [hW2]
      obtain ⟨N, hN⟩ : ∃ N, wr.heap.size = N := ⟨_, rfl⟩
      have hB2 : W2.heap[N]? = some (.cells ((List.replicate n (0 : Int)).map (Value.int .u8)).toArray 5 (0, 0)) := by
        rw [← hW2, ← hN, blk_new]
        congr 2
        apply Array.ext_getElem?
        intro q
        simp only [madeCells, List.map_replicate, List.size_toArray, List.length_cons, List.length_nil, Array.getElem?_map]
        by_cases hq : q < n
        · simp [hq, Nat.mod_one]
        · simp [hq]
      rw [hN]
      clear hmk hcell
      go_loopw [9] (fun i wr => ∃ (j : Nat) (ys : List Int), j ≤ n ∧ i = .int .i64 j ∧ ys.length = n ∧ Hid (wr.heap[N]? = some (.cells (ys.map (Value.int .u8)).toArray 5 (0, 0))) ∧ Hid (Only (fun i => i = N) W2 wr))
        (fun i _ => n - (intOf i).toNat)
      case atStart => exact ⟨0, List.replicate n 0, Nat.zero_le _, rfl, by simp, hB2, Only.refl _ _⟩
      case round =>
        obtain ⟨j, ys, hj, rfl, hys, hB, hO⟩ := hrel
        have hBc := hB.out
        have hfz := blk_free hBc j
        have HBQ := Lib.hid hBc; have HOQ := Lib.hid hO.out
        by_cases hjn : j < n
        · have hcell : wr.cell? ⟨N, j, none⟩ = some (.int .u8 (ys[j]'(by omega))) := by
            rw [blk_cell hBc]; simp
          clear hBc hB hO
          go_wp2_with fail
          go_roundw
          case rel =>
            refine ⟨j + 1, ys.set j 120, by omega, by go_num, by simpa using hys, ?_, HOQ.out.setCell (.inr rfl) _⟩
            exact (blk_set HBQ.out j _).trans (by simp [List.map_set])
          case measure => simp [intOf]; omega
        · have hjn2 : j = n := by omega
          subst hjn2
          clear hfz hBc hB hO
          have hconv := run_convert_bytes_arg (P := Tryz.prog) wr 48 5 Tryz.underlying48 Tryz.underlying5 N 0 j j ys hys (fun q hq => by
            rw [Nat.zero_add, blk_cell HBQ.out]; simp [List.getD, List.getElem?_eq_getElem (by omega : q < ys.length)]) 9 Tryz.underlying9
          obtain ⟨I, hIs, hIg⟩ := HI.out
          have hg2 : W2.heap[g]? = some (connObj I ⟨#[]⟩ 0 false) := by rw [← hW2]; exact blk_alloc hIg _
          have hgN : g < N := by rw [← hN]; exact blk_lt hIg
          have hgw := blk_only hg2 HOQ.out (show ¬ g = N by omega)
          have hbs : (strOfNums ys).size = j := by rw [← hys]; simp [strOfNums, ByteArray.size]
          have HGW := Lib.hid hgw
          obtain ⟨t, ht⟩ : ∃ t : Nat, min (j : Int) (70000 - (all : Int)) = (t : Int) := ⟨(min (j : Int) (70000 - (all : Int))).toNat, by omega⟩
          have hfp : feedP 0 (strOfNums ys) = 0 := by unfold feedP; omega
          have hft : feedN I 0 (strOfNums ys) = t := by unfold feedN; rw [hfp, hbs, hIs]; omega
          have HFP := Lib.hid hfp; have HFT := Lib.hid hft
          clear hg2 hgw hfp hft
          go_wp2_with fail
          refine (conn_feed wr g _ _ 0 (strOfNums ys) HGW.out (by omega) (by omega) (by omega) (by omega)).mono ?_
          rintro e w3 ⟨rfl, h3, ho3⟩
          rw [HFP.out, HFT.out] at h3 ⊢
          rw [Nat.zero_add]
          have hI3 : (I ++ ((strOfNums ys).extract 0 (strOfNums ys).size).extract 0 t).size = all + t := by
            rw [ByteArray.size_append, hIs, extract_all, extract_take, size_bs, List.length_take, tl_length, hbs]; omega
          obtain ⟨I3, hI3e⟩ : ∃ I3, I ++ ((strOfNums ys).extract 0 (strOfNums ys).size).extract 0 t = I3 := ⟨_, rfl⟩
          rw [hI3e] at h3 hI3
          have H3 := Lib.hid h3; have HO3 := Lib.hid ho3
          have hat : all + t ≤ 70000 := by omega
          clear h3 ho3 hI3e hconv
          go_wp2_with fail
          refine (conn_sizes w3 g _ _ _ _ H3.out).mono ?_
          rintro e w4 ⟨rfl, n4, rfl⟩
          rw [hI3]
          go_wp2_with fail
          go_roundw
          case rel =>
            refine ⟨k + 1, all + t, by omega, by omega, by go_num, by go_num, hat, ⟨I3, hI3, blk_drewN H3.out n4⟩, ?_⟩
            have e0 := HO.out.size
            have e1 : Only (fun i => i = g) w1 W2 := by rw [← hW2]; exact HO.out.alloc _
            exact ((e1.then HOQ.out (fun i hi e => by omega)).trans HO3.out).drewN n4
          case measure => simp [intOf]; omega
    · by_cases hkx : k < xs.length
      · have hk : k = 30 := by omega
        subst hk
        go_wp2_with fail
        go_ret
        exact ⟨rfl, (HK0.out.trans HK1.out).then hO.out (fun i hi e => by omega)⟩
      · have hk : k = xs.length := by omega
        subst hk
        go_wp2_with fail
        go_ret
        exact ⟨rfl, (HK0.out.trans HK1.out).then hO.out (fun i hi e => by omega)⟩
end Go.Proofs.YtnlabbclmngphaaGreatDoor
