/- What meta.Parse does, but for what read does. Conditions: texts shorter than 2^32 bytes. -/
import Derived.Test.YtnlabbclmngphaaGreatDoorMetaA
namespace Go.Proofs.YtnlabbclmngphaaGreatDoor
open Go.RowKit
set_option linter.unusedSimpArgs false
set_option linter.unusedVariables false
attribute [local go_sem ↓] run_min2 run_max2

theorem cell_only {S : Nat → Prop} {w w' : World} {b i : Nat} {v : Value} (h : w.cell? ⟨b, i, none⟩ = some v) (k : Only S w w') (hS : ¬ S b) : w'.cell? ⟨b, i, none⟩ = some v := by
  rw [World.cell?_of_block (w := w) (k.block b (World.block_lt_of_cell? w _ h) hS)]; exact h

set_option maxRecDepth 100000 in
set_option maxHeartbeats 1000000 in
theorem mparse_none (w : World) (b : ByteArray) (hb : b.size < 2048) (hnl : 10 ∉ tl b) :
    Calls Tryz.prog 29 #[.string b] w fun e w' => e = .returned (.tuple #[.agg #[.int .i64 0, .slice none 0 0, .bool false, .bool false, .string ⟨#[]⟩, .string ⟨#[]⟩, .int .i64 0, .bool false, .string ⟨#[]⟩, .slice none 0 0, .string ⟨#[]⟩], .int .i64 0]) ∧ Kept w w' := by
  obtain ⟨m, hm, hmle, hcut⟩ := cut2048 b
  have ht : (tl b).take 2048 = tl b := List.take_of_length_le (by rw [tl_length]; omega)
  rw [ht] at hcut
  have HNL := Lib.hid hnl
  clear hnl
  go_enter Tryz.func29, Tryz.ntmps29
  go_wp2_with fail
  refine (line_no (bs (tl b)) _ (by rw [tl_bs]; exact HNL.out)).mono ?_
  rintro e w1 ⟨rfl, rfl⟩
  go_wp2_with fail
  refine bodyPost_ret (v := .tuple #[.agg #[.int .i64 0, .slice none 0 0, .bool false, .bool false, .string ⟨#[]⟩, .string ⟨#[]⟩, .int .i64 0, .bool false, .string ⟨#[]⟩, .slice none 0 0, .string ⟨#[]⟩], .int .i64 0]) (by simp [results, Tryz.results29, go_sem]) rfl ?_
  exact ⟨rfl, (Only.refl _ _).alloc _⟩

set_option maxRecDepth 100000 in
set_option maxHeartbeats 1000000 in
theorem mparse_long (w : World) (b : ByteArray) (hb : 2048 ≤ b.size) (hnl : 10 ∉ (tl b).take 2048) :
    Calls Tryz.prog 29 #[.string b] w fun e w' => e = .returned (.tuple #[.agg #[.int .i64 2, .slice none 0 0, .bool false, .bool false, .string (bs eLong), .string ⟨#[]⟩, .int .i64 0, .bool true, .string ⟨#[]⟩, .slice none 0 0, .string ⟨#[]⟩], .int .i64 2048]) ∧ Kept w w' := by
  obtain ⟨m, hm, hmle, hcut⟩ := cut2048 b
  obtain ⟨t, ht⟩ : ∃ t, (tl b).take 2048 = t := ⟨_, rfl⟩
  rw [ht] at hcut hnl
  have HNL := Lib.hid hnl
  clear hnl ht
  go_enter Tryz.func29, Tryz.ntmps29
  go_wp2_with fail
  refine (line_no (bs t) _ (by rw [tl_bs]; exact HNL.out)).mono ?_
  rintro e w1 ⟨rfl, rfl⟩
  go_wp2_with fail
  refine (mbad_calls eLong 0 _).mono ?_
  rintro e w2 ⟨v2, rfl, rfl, hK2⟩
  have hN2 := blk_only (blk_new w (.cells zeroReq 35)) hK2 id
  have k0 := blk_cell hN2 0
  have z0 := blk_free hN2 0
  have k1 := blk_cell hN2 1
  have z1 := blk_free hN2 1
  have k2 := blk_cell hN2 2
  have z2 := blk_free hN2 2
  have k3 := blk_cell hN2 3
  have z3 := blk_free hN2 3
  have k4 := blk_cell hN2 4
  have z4 := blk_free hN2 4
  have k5 := blk_cell hN2 5
  have z5 := blk_free hN2 5
  have k6 := blk_cell hN2 6
  have z6 := blk_free hN2 6
  have k7 := blk_cell hN2 7
  have z7 := blk_free hN2 7
  have k8 := blk_cell hN2 8
  have z8 := blk_free hN2 8
  have k9 := blk_cell hN2 9
  have z9 := blk_free hN2 9
  have k10 := blk_cell hN2 10
  have z10 := blk_free hN2 10
  simp [zeroReq] at k0 k1 k2 k3 k4 k5 k6 k7 k8 k9 k10
  have hlt : w.heap.size < w2.heap.size := blk_lt hN2
  go_wp2_with fail
  have hW := blk_alloc (blk_set11 hN2 rfl (.int .i64 2) (.slice none 0 0) (.bool false) (.bool false) (.string (bs eLong)) (.string ⟨#[]⟩) (.int .i64 0) (.bool true) (.string ⟨#[]⟩) (.slice none 0 0) (.string ⟨#[]⟩)) (.cells #[.int .i64 2, .slice none 0 0, .bool false, .bool false, .string (bs eLong), .string ⟨#[]⟩, .int .i64 0, .bool true, .string ⟨#[]⟩, .slice none 0 0, .string ⟨#[]⟩] 35)
  have hOW := (only_set11 w2 w.heap.size (.int .i64 2) (.slice none 0 0) (.bool false) (.bool false) (.string (bs eLong)) (.string ⟨#[]⟩) (.int .i64 0) (.bool true) (.string ⟨#[]⟩) (.slice none 0 0) (.string ⟨#[]⟩)).alloc (.cells #[.int .i64 2, .slice none 0 0, .bool false, .bool false, .string (bs eLong), .string ⟨#[]⟩, .int .i64 0, .bool true, .string ⟨#[]⟩, .slice none 0 0, .string ⟨#[]⟩] 35)
  have q0 := blk_cell hW 0
  have q1 := blk_cell hW 1
  have q2 := blk_cell hW 2
  have q3 := blk_cell hW 3
  have q4 := blk_cell hW 4
  have q5 := blk_cell hW 5
  have q6 := blk_cell hW 6
  have q7 := blk_cell hW 7
  have q8 := blk_cell hW 8
  have q9 := blk_cell hW 9
  have q10 := blk_cell hW 10
  simp only [List.getElem?_toArray, List.getElem?_cons_zero, List.getElem?_cons_succ] at q0 q1 q2 q3 q4 q5 q6 q7 q8 q9 q10
  refine bodyPost_ret (v := .tuple #[.agg #[.int .i64 2, .slice none 0 0, .bool false, .bool false, .string (bs eLong), .string ⟨#[]⟩, .int .i64 0, .bool true, .string ⟨#[]⟩, .slice none 0 0, .string ⟨#[]⟩], .int .i64 2048]) (by simp [results, Tryz.results29, go_sem, q0, q1, q2, q3, q4, q5, q6, q7, q8, q9, q10]) rfl ?_
  exact ⟨rfl, (((Only.refl _ w).alloc _).trans hK2).then hOW (fun i hi e => by omega)⟩

set_option maxRecDepth 100000 in
set_option maxHeartbeats 1000000 in
theorem mparse_blank (w : World) (b : ByteArray) (hb : b.size ≤ 4294967281) (hnl : 10 ∈ (tl b).take 2048) (hws : wordsOf (lineOf ((tl b).take 2048)) = []) :
    Calls Tryz.prog 29 #[.string b] w fun e w' => e = .returned (.tuple #[.agg #[.int .i64 2, .slice none 0 0, .bool false, .bool false, .string (bs eError), .string ⟨#[]⟩, .int .i64 0, .bool false, .string ⟨#[]⟩, .slice none 0 0, .string ⟨#[]⟩], .int .i64 ((ahead 10 ((tl b).take 2048)).length + 1)]) ∧ Kept w w' := by
  obtain ⟨m, hm, hmle, hcut⟩ := cut2048 b
  obtain ⟨t, ht⟩ : ∃ t, (tl b).take 2048 = t := ⟨_, rfl⟩
  rw [ht] at hcut hnl hws ⊢
  have htl : t.length ≤ 2048 := by rw [← ht]; simp; omega
  have htl2 : t.length ≤ b.size := by rw [← ht, ← tl_length]; simp; omega
  obtain ⟨n, hn⟩ : ∃ n, (ahead 10 t).length + 1 = n := ⟨_, rfl⟩
  have hnle : n ≤ t.length := by have := ahead_lt 10 t hnl; omega
  have hn0 : ((n : Int) == 0) = false := by simp; omega
  have hlo : (lineOf t).length ≤ 4294967281 := by
    have h1 : (Lib.trimSuffix (ahead 10 t) [13]).length ≤ (ahead 10 t).length := by unfold Lib.trimSuffix; split <;> simp
    have := ahead_le 10 t
    unfold lineOf; omega
  have hn' : (((ahead 10 t).length : Int) + 1) = (n : Int) := by omega
  rw [hn'] 
  have HN := Lib.hid hn; have HNL := Lib.hid hnl; have HWS := Lib.hid hws
  clear hn hnl hws hn' ht
  go_enter Tryz.func29, Tryz.ntmps29
  go_wp2_with fail
  refine (line_yes (bs t) _ (by rw [size_bs]; omega) HNL.out).mono ?_
  rintro e w1 ⟨rfl, q, rfl⟩
  rw [tl_bs, HN.out]
  go_wp2_with fail
  refine (split_calls (lineOf t) _ hlo).mono ?_
  rintro e w2 ⟨v2, rfl, hown, hK2⟩
  obtain ⟨a2, cap2, rfl⟩ := owns_slice hown
  rw [HWS.out] at hown
  rw [HWS.out]
  have hN1 : ((w.alloc (.cells zeroReq 35)).drewN q).heap[w.heap.size]? = some (.cells zeroReq 35 (0, 0)) := blk_drewN (blk_new _ _) _
  have hN2 : w2.heap[w.heap.size]? = some (.cells zeroReq 35 (0, 0)) := blk_only hN1 hK2 id
  have hK12 : Kept w w2 := (((Only.refl _ w).alloc _).drewN _).trans hK2
  clear hK2 hN1
  simp only [List.length_nil]
  clear hown
  go_wp2_with fail
  refine (mbad_calls eError 0 _).mono ?_
  rintro e w4 ⟨v4, rfl, rfl, hK4⟩
  have hN4 := blk_only hN2 hK4 id
  have k0 := blk_cell hN4 0
  have z0 := blk_free hN4 0
  have k1 := blk_cell hN4 1
  have z1 := blk_free hN4 1
  have k2 := blk_cell hN4 2
  have z2 := blk_free hN4 2
  have k3 := blk_cell hN4 3
  have z3 := blk_free hN4 3
  have k4 := blk_cell hN4 4
  have z4 := blk_free hN4 4
  have k5 := blk_cell hN4 5
  have z5 := blk_free hN4 5
  have k6 := blk_cell hN4 6
  have z6 := blk_free hN4 6
  have k7 := blk_cell hN4 7
  have z7 := blk_free hN4 7
  have k8 := blk_cell hN4 8
  have z8 := blk_free hN4 8
  have k9 := blk_cell hN4 9
  have z9 := blk_free hN4 9
  have k10 := blk_cell hN4 10
  have z10 := blk_free hN4 10
  simp [zeroReq] at k0 k1 k2 k3 k4 k5 k6 k7 k8 k9 k10
  go_wp2_with fail
  have hW := blk_set11 hN4 rfl (.int .i64 2) (.slice none 0 0) (.bool false) (.bool false) (.string (bs eError)) (.string ⟨#[]⟩) (.int .i64 0) (.bool false) (.string ⟨#[]⟩) (.slice none 0 0) (.string ⟨#[]⟩)
  have hOW := only_set11 w4 w.heap.size (.int .i64 2) (.slice none 0 0) (.bool false) (.bool false) (.string (bs eError)) (.string ⟨#[]⟩) (.int .i64 0) (.bool false) (.string ⟨#[]⟩) (.slice none 0 0) (.string ⟨#[]⟩)
  have q0 := blk_cell hW 0
  have q1 := blk_cell hW 1
  have q2 := blk_cell hW 2
  have q3 := blk_cell hW 3
  have q4 := blk_cell hW 4
  have q5 := blk_cell hW 5
  have q6 := blk_cell hW 6
  have q7 := blk_cell hW 7
  have q8 := blk_cell hW 8
  have q9 := blk_cell hW 9
  have q10 := blk_cell hW 10
  simp only [List.getElem?_toArray, List.getElem?_cons_zero, List.getElem?_cons_succ] at q0 q1 q2 q3 q4 q5 q6 q7 q8 q9 q10
  refine bodyPost_ret (v := .tuple #[.agg #[.int .i64 2, .slice none 0 0, .bool false, .bool false, .string (bs eError), .string ⟨#[]⟩, .int .i64 0, .bool false, .string ⟨#[]⟩, .slice none 0 0, .string ⟨#[]⟩], .int .i64 (n : Int)]) (by simp [results, Tryz.results29, go_sem, q0, q1, q2, q3, q4, q5, q6, q7, q8, q9, q10]) rfl ?_
  exact ⟨rfl, (hK12.trans hK4).then hOW (fun i hi e => by omega)⟩

set_option maxRecDepth 100000 in
set_option maxHeartbeats 1000000 in
theorem mparse_mn (w : World) (b : ByteArray) (hb : b.size ≤ 4294967281) (hnl : 10 ∈ (tl b).take 2048) (hws : wordsOf (lineOf ((tl b).take 2048)) = [[109, 110]]) :
    Calls Tryz.prog 29 #[.string b] w fun e w' => e = .returned (.tuple #[.agg #[.int .i64 7, .slice none 0 0, .bool false, .bool false, .string ⟨#[]⟩, .string ⟨#[]⟩, .int .i64 0, .bool false, .string ⟨#[109, 110]⟩, .slice none 0 0, .string ⟨#[]⟩], .int .i64 ((ahead 10 ((tl b).take 2048)).length + 1)]) ∧ Kept w w' := by
  obtain ⟨m, hm, hmle, hcut⟩ := cut2048 b
  obtain ⟨t, ht⟩ : ∃ t, (tl b).take 2048 = t := ⟨_, rfl⟩
  rw [ht] at hcut hnl hws ⊢
  have htl : t.length ≤ 2048 := by rw [← ht]; simp; omega
  have htl2 : t.length ≤ b.size := by rw [← ht, ← tl_length]; simp; omega
  obtain ⟨n, hn⟩ : ∃ n, (ahead 10 t).length + 1 = n := ⟨_, rfl⟩
  have hnle : n ≤ t.length := by have := ahead_lt 10 t hnl; omega
  have hn0 : ((n : Int) == 0) = false := by simp; omega
  have hlo : (lineOf t).length ≤ 4294967281 := by
    have h1 : (Lib.trimSuffix (ahead 10 t) [13]).length ≤ (ahead 10 t).length := by unfold Lib.trimSuffix; split <;> simp
    have := ahead_le 10 t
    unfold lineOf; omega
  have hn' : (((ahead 10 t).length : Int) + 1) = (n : Int) := by omega
  rw [hn'] 
  have HN := Lib.hid hn; have HNL := Lib.hid hnl; have HWS := Lib.hid hws
  clear hn hnl hws hn' ht
  go_enter Tryz.func29, Tryz.ntmps29
  go_wp2_with fail
  refine (line_yes (bs t) _ (by rw [size_bs]; omega) HNL.out).mono ?_
  rintro e w1 ⟨rfl, q, rfl⟩
  rw [tl_bs, HN.out]
  go_wp2_with fail
  refine (split_calls (lineOf t) _ hlo).mono ?_
  rintro e w2 ⟨v2, rfl, hown, hK2⟩
  obtain ⟨a2, cap2, rfl⟩ := owns_slice hown
  rw [HWS.out] at hown
  rw [HWS.out]
  have hN1 : ((w.alloc (.cells zeroReq 35)).drewN q).heap[w.heap.size]? = some (.cells zeroReq 35 (0, 0)) := blk_drewN (blk_new _ _) _
  have hN2 : w2.heap[w.heap.size]? = some (.cells zeroReq 35 (0, 0)) := blk_only hN1 hK2 id
  have hK12 : Kept w w2 := (((Only.refl _ w).alloc _).drewN _).trans hK2
  clear hK2 hN1
  obtain ⟨b2, rfl, -, hb2, hbl2, hcap2, hmax2, hcell2⟩ := owns_strs hown
  have c0 := hcell2 0 _ rfl
  simp only [List.length_cons, List.length_nil, Nat.zero_add]
  clear hown hcell2 hb2
  have hmn := eqs_yes (rfl : ([109, 110] : List UInt8) = [109, 110])
  go_wp2_with fail
  refine (kind_calls [109, 110] _).mono ?_
  rintro e w3 ⟨rfl, hK3⟩
  rw [show kindFlags [109, 110] = [] from by simp [kindFlags], show bs [] = (⟨#[]⟩ : ByteArray) from rfl]
  have hN3 := blk_only hN2 hK3 id
  have c0' := cell_only c0 hK3 id
  have hlt : b2 < w3.heap.size := by have := hK3.size; omega
  have hlw : w.heap.size < w3.heap.size := blk_lt hN3
  have k0 := blk_cell hN3 0
  have z0 := blk_free hN3 0
  have k1 := blk_cell hN3 1
  have z1 := blk_free hN3 1
  have k2 := blk_cell hN3 2
  have z2 := blk_free hN3 2
  have k3 := blk_cell hN3 3
  have z3 := blk_free hN3 3
  have k4 := blk_cell hN3 4
  have z4 := blk_free hN3 4
  have k5 := blk_cell hN3 5
  have z5 := blk_free hN3 5
  have k6 := blk_cell hN3 6
  have z6 := blk_free hN3 6
  have k7 := blk_cell hN3 7
  have z7 := blk_free hN3 7
  have k8 := blk_cell hN3 8
  have z8 := blk_free hN3 8
  have k9 := blk_cell hN3 9
  have z9 := blk_free hN3 9
  have k10 := blk_cell hN3 10
  have z10 := blk_free hN3 10
  simp [zeroReq] at k0 k1 k2 k3 k4 k5 k6 k7 k8 k9 k10
  go_wp2_with fail
  generalize Obj.cells #[.int .i64 (kindOp [109, 110]), .int .i64 0, .string ⟨#[]⟩, .string ⟨#[]⟩, .int .u32 0, .int .i64 0, .bool false, .int .u64 0, .bool false, .int .u64 (kindDelta [109, 110]), .int .u64 0, .bool false, .bool false, .int .i64 0, .int .i64 (-1), .bool false] 59 = o
  have hW := blk_alloc (blk_set11 hN3 rfl (.int .i64 7) (.slice none 0 0) (.bool false) (.bool false) (.string ⟨#[]⟩) (.string ⟨#[]⟩) (.int .i64 0) (.bool false) (.string ⟨#[109, 110]⟩) (.slice none 0 0) (.string ⟨#[]⟩)) o
  have hOW := (only_set11 w3 w.heap.size (.int .i64 7) (.slice none 0 0) (.bool false) (.bool false) (.string ⟨#[]⟩) (.string ⟨#[]⟩) (.int .i64 0) (.bool false) (.string ⟨#[109, 110]⟩) (.slice none 0 0) (.string ⟨#[]⟩)).alloc o
  have q0 := blk_cell hW 0
  have q1 := blk_cell hW 1
  have q2 := blk_cell hW 2
  have q3 := blk_cell hW 3
  have q4 := blk_cell hW 4
  have q5 := blk_cell hW 5
  have q6 := blk_cell hW 6
  have q7 := blk_cell hW 7
  have q8 := blk_cell hW 8
  have q9 := blk_cell hW 9
  have q10 := blk_cell hW 10
  simp only [List.getElem?_toArray, List.getElem?_cons_zero, List.getElem?_cons_succ] at q0 q1 q2 q3 q4 q5 q6 q7 q8 q9 q10
  refine bodyPost_ret (v := .tuple #[.agg #[.int .i64 7, .slice none 0 0, .bool false, .bool false, .string ⟨#[]⟩, .string ⟨#[]⟩, .int .i64 0, .bool false, .string ⟨#[109, 110]⟩, .slice none 0 0, .string ⟨#[]⟩], .int .i64 (n : Int)]) (by simp [results, Tryz.results29, go_sem, q0, q1, q2, q3, q4, q5, q6, q7, q8, q9, q10]) rfl ?_
  exact ⟨rfl, (hK12.trans hK3).then hOW (fun i hi e => by omega)⟩

end Go.Proofs.YtnlabbclmngphaaGreatDoor
