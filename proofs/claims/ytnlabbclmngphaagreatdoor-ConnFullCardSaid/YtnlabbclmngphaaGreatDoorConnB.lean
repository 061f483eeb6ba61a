/- What conn.parse does: which of the two protocols reads. Conditions: texts shorter than 2^32 bytes; what the protocol's reader does comes in as a premise. -/
import Derived.Test.YtnlabbclmngphaaGreatDoorMetaB
import Derived.Test.YtnlabbclmngphaaGreatDoorTextH
namespace Go.Proofs.YtnlabbclmngphaaGreatDoor
open Go.RowKit
set_option linter.unusedSimpArgs false
set_option linter.unusedVariables false
attribute [local go_sem ↓] run_min2 run_max2

/-- The first line of some bytes, and how long it is. -/
def firstLine (l : List UInt8) : List UInt8 := if 10 ∈ l then lineOf l else []
def lineN (l : List UInt8) : Nat := if 10 ∈ l then (ahead 10 l).length + 1 else 0
theorem line_any (l : List UInt8) (w : World) (hs : l.length ≤ 9223372036854775800) :
    Calls Tryz.prog 25 #[.string (bs l)] w fun e w' => e = .returned (.tuple #[.string (bs (firstLine l)), .int .i64 (lineN l)]) ∧ ∃ n, w.drewN n = w' := by
  by_cases h : 10 ∈ l
  · refine (line_yes (bs l) w (by rw [size_bs]; omega) (by rw [tl_bs]; exact h)).mono fun e w' ⟨he, hw⟩ => ⟨?_, hw⟩
    rw [he]; simp [firstLine, lineN, h]
  · refine (line_no (bs l) w (by rw [tl_bs]; exact h)).mono fun e w' ⟨he, hw⟩ => ⟨?_, 0, hw⟩
    rw [he]; simp [firstLine, lineN, h, bs]
theorem firstLine_le (l : List UInt8) : (firstLine l).length ≤ l.length := by
  unfold firstLine
  split
  · have h1 : (Lib.trimSuffix (ahead 10 l) [13]).length ≤ (ahead 10 l).length := by unfold Lib.trimSuffix; split <;> simp
    have := ahead_le 10 l
    unfold lineOf; omega
  · simp
/-- The first word, and whether it is one of the second protocol. -/
def headOf (b : List UInt8) : List UInt8 := ahead 32 (skipB (firstLine (b.take 2048)))
def isMeta (nm : List UInt8) : Bool := decide (nm ∈ [[109, 110], [109, 101], [109, 103], [109, 115], [109, 100], [109, 97]])

set_option maxRecDepth 100000 in
set_option maxHeartbeats 1000000 in
theorem cparse_text (w : World) (b : ByteArray) (hb : b.size ≤ 4294967281) (r : Req) (n : Int) (hmeta : isMeta (headOf (tl b)) = false)
    (hcall : ∀ w0, Kept w w0 → Calls Tryz.prog 30 #[.string b] w0 fun e w' => ∃ v, e = .returned (.tuple #[v, .int .i64 n]) ∧ IsReq w' w0.heap.size r v ∧ Kept w0 w') :
    Calls Tryz.prog 22 #[.string b] w fun e w' => ∃ v, e = .returned (.tuple #[v, .int .i64 n]) ∧ IsReq w' w.heap.size r v ∧ Kept w w' := by
  obtain ⟨m, hm, hmle, hcut⟩ := cut2048 b
  obtain ⟨nm, hnm⟩ : ∃ nm, headOf (tl b) = nm := ⟨_, rfl⟩
  rw [hnm] at hmeta
  unfold headOf at hnm
  obtain ⟨t, ht⟩ : ∃ t, (tl b).take 2048 = t := ⟨_, rfl⟩
  rw [ht] at hcut hnm
  have htl : t.length ≤ 2048 := by rw [← ht]; simp; omega
  have hfl := firstLine_le t
  have hsk := skipB_le (firstLine t)
  have HNM := Lib.hid hnm; have HC := Lib.hid hcall; have HM := Lib.hid hmeta
  clear hnm ht hcall hmeta
  go_enter Tryz.func22, Tryz.ntmps22
  go_wp2_with fail
  refine (line_any t _ (by omega)).mono ?_
  rintro e w1 ⟨rfl, q1, rfl⟩
  go_wp2_with fail
  refine (trimLeft_blank (firstLine t) _).mono ?_
  rintro e w1 ⟨rfl, rfl⟩
  go_wp2_with fail
  refine (cut_any (skipB (firstLine t)) 32 _ (by omega)).mono ?_
  rintro e w1 ⟨rfl, q2, rfl⟩
  rw [HNM.out]
  by_cases hl : nm.length = 2
  · obtain ⟨x, y, rfl⟩ : ∃ x y, nm = [x, y] := by
      match nm, hl with
      | [x, y], _ => exact ⟨x, y, rfl⟩
    by_cases hx : x = 109
    · subst hx
      have g1 : Lib.indexByte [110, 101, 103, 115, 100, 97] ((bs [109, y])[1]'(by show 1 < 2; omega)) < 0 := by
        have hm := HM.out
        show Lib.indexByte [110, 101, 103, 115, 100, 97] y < 0
        rw [indexByte_eq, if_neg]
        · omega
        · simpa [isMeta] using hm
      go_wp2_with (go_at_call 28; refine (Tryz.strings_IndexByte _ _ _).mono ?_; rintro e w' ⟨rfl, rfl⟩)
      refine (HC.out _ (((Only.refl _ w).alloc _).drewN (q1 + q2))).mono ?_
      rintro e w5 ⟨v5, rfl, ⟨vc, vf, rfl, hvc, hvf⟩, hK5⟩
      obtain ⟨a6, cap6, rfl⟩ := owns_slice hvc
      obtain ⟨a7, cap7, rfl⟩ := owns_slice hvf
      have hN5 := blk_only (blk_drewN (blk_new w (.cells zeroReq 35)) (q1 + q2)) hK5 id
      have hK05 : Kept w w5 := (((Only.refl _ w).alloc _).drewN (q1 + q2)).trans hK5
      have hs5 : w.heap.size + 1 ≤ w5.heap.size := by have := blk_lt hN5; omega
      have k0 := blk_cell hN5 0
      have z0 := blk_free hN5 0
      have k1 := blk_cell hN5 1
      have z1 := blk_free hN5 1
      have k2 := blk_cell hN5 2
      have z2 := blk_free hN5 2
      have k3 := blk_cell hN5 3
      have z3 := blk_free hN5 3
      have k4 := blk_cell hN5 4
      have z4 := blk_free hN5 4
      have k5 := blk_cell hN5 5
      have z5 := blk_free hN5 5
      have k6 := blk_cell hN5 6
      have z6 := blk_free hN5 6
      have k7 := blk_cell hN5 7
      have z7 := blk_free hN5 7
      have k8 := blk_cell hN5 8
      have z8 := blk_free hN5 8
      have k9 := blk_cell hN5 9
      have z9 := blk_free hN5 9
      have k10 := blk_cell hN5 10
      have z10 := blk_free hN5 10
      simp [zeroReq] at k0 k1 k2 k3 k4 k5 k6 k7 k8 k9 k10
      go_wp2_with fail
      have hW := blk_set11 hN5 rfl (.int .i64 r.kind) (.slice a6 r.cmds.length cap6) (.bool r.quiet) (.bool r.tokens) (.string (bs r.reply)) (.string (bs r.arg)) (.int .i64 r.skip) (.bool r.close) (.string (bs r.meta_)) (.slice a7 r.flags.length cap7) (.string (bs r.word))
      have hOW := only_set11 w5 w.heap.size (.int .i64 r.kind) (.slice a6 r.cmds.length cap6) (.bool r.quiet) (.bool r.tokens) (.string (bs r.reply)) (.string (bs r.arg)) (.int .i64 r.skip) (.bool r.close) (.string (bs r.meta_)) (.slice a7 r.flags.length cap7) (.string (bs r.word))
      have u0 := blk_cell hW 0
      have u1 := blk_cell hW 1
      have u2 := blk_cell hW 2
      have u3 := blk_cell hW 3
      have u4 := blk_cell hW 4
      have u5 := blk_cell hW 5
      have u6 := blk_cell hW 6
      have u7 := blk_cell hW 7
      have u8 := blk_cell hW 8
      have u9 := blk_cell hW 9
      have u10 := blk_cell hW 10
      simp only [List.getElem?_toArray, List.getElem?_cons_zero, List.getElem?_cons_succ] at u0 u1 u2 u3 u4 u5 u6 u7 u8 u9 u10
      refine bodyPost_ret (v := .tuple #[.agg #[.int .i64 r.kind, .slice a6 r.cmds.length cap6, .bool r.quiet, .bool r.tokens, .string (bs r.reply), .string (bs r.arg), .int .i64 r.skip, .bool r.close, .string (bs r.meta_), .slice a7 r.flags.length cap7, .string (bs r.word)], .int .i64 n]) (by simp [results, Tryz.results22, go_sem, u0, u1, u2, u3, u4, u5, u6, u7, u8, u9, u10]) rfl ?_
      refine ⟨_, rfl, ⟨_, _, rfl, ?_, ?_⟩, hK05.then hOW (fun i hi e => by omega)⟩
      · exact owns_base (owns_only hvc hOW (fun i hi e => by (have hi2 : w.heap.size + 1 ≤ i := by simpa using hi); omega)) (by simp)
      · exact owns_base (owns_only hvf hOW (fun i hi e => by (have hi2 : w.heap.size + 1 ≤ i := by simpa using hi); omega)) (by simp)
    · have g1 : ¬ (((bs [x, y])[0]'(by show 0 < 2; omega)).toNat : Int) = 109 := by
        intro h
        apply hx
        have h2 : x.toNat = 109 := by have : (x.toNat : Int) = 109 := h; omega
        exact UInt8.toNat_inj.1 h2
      go_wp2_with fail
      refine (HC.out _ (((Only.refl _ w).alloc _).drewN (q1 + q2))).mono ?_
      rintro e w5 ⟨v5, rfl, ⟨vc, vf, rfl, hvc, hvf⟩, hK5⟩
      obtain ⟨a6, cap6, rfl⟩ := owns_slice hvc
      obtain ⟨a7, cap7, rfl⟩ := owns_slice hvf
      have hN5 := blk_only (blk_drewN (blk_new w (.cells zeroReq 35)) (q1 + q2)) hK5 id
      have hK05 : Kept w w5 := (((Only.refl _ w).alloc _).drewN (q1 + q2)).trans hK5
      have hs5 : w.heap.size + 1 ≤ w5.heap.size := by have := blk_lt hN5; omega
      have k0 := blk_cell hN5 0
      have z0 := blk_free hN5 0
      have k1 := blk_cell hN5 1
      have z1 := blk_free hN5 1
      have k2 := blk_cell hN5 2
      have z2 := blk_free hN5 2
      have k3 := blk_cell hN5 3
      have z3 := blk_free hN5 3
      have k4 := blk_cell hN5 4
      have z4 := blk_free hN5 4
      have k5 := blk_cell hN5 5
      have z5 := blk_free hN5 5
      have k6 := blk_cell hN5 6
      have z6 := blk_free hN5 6
      have k7 := blk_cell hN5 7
      have z7 := blk_free hN5 7
      have k8 := blk_cell hN5 8
      have z8 := blk_free hN5 8
      have k9 := blk_cell hN5 9
      have z9 := blk_free hN5 9
      have k10 := blk_cell hN5 10
      have z10 := blk_free hN5 10
      simp [zeroReq] at k0 k1 k2 k3 k4 k5 k6 k7 k8 k9 k10
      go_wp2_with fail
      have hW := blk_set11 hN5 rfl (.int .i64 r.kind) (.slice a6 r.cmds.length cap6) (.bool r.quiet) (.bool r.tokens) (.string (bs r.reply)) (.string (bs r.arg)) (.int .i64 r.skip) (.bool r.close) (.string (bs r.meta_)) (.slice a7 r.flags.length cap7) (.string (bs r.word))
      have hOW := only_set11 w5 w.heap.size (.int .i64 r.kind) (.slice a6 r.cmds.length cap6) (.bool r.quiet) (.bool r.tokens) (.string (bs r.reply)) (.string (bs r.arg)) (.int .i64 r.skip) (.bool r.close) (.string (bs r.meta_)) (.slice a7 r.flags.length cap7) (.string (bs r.word))
      have u0 := blk_cell hW 0
      have u1 := blk_cell hW 1
      have u2 := blk_cell hW 2
      have u3 := blk_cell hW 3
      have u4 := blk_cell hW 4
      have u5 := blk_cell hW 5
      have u6 := blk_cell hW 6
      have u7 := blk_cell hW 7
      have u8 := blk_cell hW 8
      have u9 := blk_cell hW 9
      have u10 := blk_cell hW 10
      simp only [List.getElem?_toArray, List.getElem?_cons_zero, List.getElem?_cons_succ] at u0 u1 u2 u3 u4 u5 u6 u7 u8 u9 u10
      refine bodyPost_ret (v := .tuple #[.agg #[.int .i64 r.kind, .slice a6 r.cmds.length cap6, .bool r.quiet, .bool r.tokens, .string (bs r.reply), .string (bs r.arg), .int .i64 r.skip, .bool r.close, .string (bs r.meta_), .slice a7 r.flags.length cap7, .string (bs r.word)], .int .i64 n]) (by simp [results, Tryz.results22, go_sem, u0, u1, u2, u3, u4, u5, u6, u7, u8, u9, u10]) rfl ?_
      refine ⟨_, rfl, ⟨_, _, rfl, ?_, ?_⟩, hK05.then hOW (fun i hi e => by omega)⟩
      · exact owns_base (owns_only hvc hOW (fun i hi e => by (have hi2 : w.heap.size + 1 ≤ i := by simpa using hi); omega)) (by simp)
      · exact owns_base (owns_only hvf hOW (fun i hi e => by (have hi2 : w.heap.size + 1 ≤ i := by simpa using hi); omega)) (by simp)
  · have hl2 : (nm.length == 2) = false := by simpa using hl
    go_wp2_with fail
    refine (HC.out _ (((Only.refl _ w).alloc _).drewN (q1 + q2))).mono ?_
    rintro e w5 ⟨v5, rfl, ⟨vc, vf, rfl, hvc, hvf⟩, hK5⟩
    obtain ⟨a6, cap6, rfl⟩ := owns_slice hvc
    obtain ⟨a7, cap7, rfl⟩ := owns_slice hvf
    have hN5 := blk_only (blk_drewN (blk_new w (.cells zeroReq 35)) (q1 + q2)) hK5 id
    have hK05 : Kept w w5 := (((Only.refl _ w).alloc _).drewN (q1 + q2)).trans hK5
    have hs5 : w.heap.size + 1 ≤ w5.heap.size := by have := blk_lt hN5; omega
    have k0 := blk_cell hN5 0
    have z0 := blk_free hN5 0
    have k1 := blk_cell hN5 1
    have z1 := blk_free hN5 1
    have k2 := blk_cell hN5 2
    have z2 := blk_free hN5 2
    have k3 := blk_cell hN5 3
    have z3 := blk_free hN5 3
    have k4 := blk_cell hN5 4
    have z4 := blk_free hN5 4
    have k5 := blk_cell hN5 5
    have z5 := blk_free hN5 5
    have k6 := blk_cell hN5 6
    have z6 := blk_free hN5 6
    have k7 := blk_cell hN5 7
    have z7 := blk_free hN5 7
    have k8 := blk_cell hN5 8
    have z8 := blk_free hN5 8
    have k9 := blk_cell hN5 9
    have z9 := blk_free hN5 9
    have k10 := blk_cell hN5 10
    have z10 := blk_free hN5 10
    simp [zeroReq] at k0 k1 k2 k3 k4 k5 k6 k7 k8 k9 k10
    go_wp2_with fail
    have hW := blk_set11 hN5 rfl (.int .i64 r.kind) (.slice a6 r.cmds.length cap6) (.bool r.quiet) (.bool r.tokens) (.string (bs r.reply)) (.string (bs r.arg)) (.int .i64 r.skip) (.bool r.close) (.string (bs r.meta_)) (.slice a7 r.flags.length cap7) (.string (bs r.word))
    have hOW := only_set11 w5 w.heap.size (.int .i64 r.kind) (.slice a6 r.cmds.length cap6) (.bool r.quiet) (.bool r.tokens) (.string (bs r.reply)) (.string (bs r.arg)) (.int .i64 r.skip) (.bool r.close) (.string (bs r.meta_)) (.slice a7 r.flags.length cap7) (.string (bs r.word))
    have u0 := blk_cell hW 0
    have u1 := blk_cell hW 1
    have u2 := blk_cell hW 2
    have u3 := blk_cell hW 3
    have u4 := blk_cell hW 4
    have u5 := blk_cell hW 5
    have u6 := blk_cell hW 6
    have u7 := blk_cell hW 7
    have u8 := blk_cell hW 8
    have u9 := blk_cell hW 9
    have u10 := blk_cell hW 10
    simp only [List.getElem?_toArray, List.getElem?_cons_zero, List.getElem?_cons_succ] at u0 u1 u2 u3 u4 u5 u6 u7 u8 u9 u10
    refine bodyPost_ret (v := .tuple #[.agg #[.int .i64 r.kind, .slice a6 r.cmds.length cap6, .bool r.quiet, .bool r.tokens, .string (bs r.reply), .string (bs r.arg), .int .i64 r.skip, .bool r.close, .string (bs r.meta_), .slice a7 r.flags.length cap7, .string (bs r.word)], .int .i64 n]) (by simp [results, Tryz.results22, go_sem, u0, u1, u2, u3, u4, u5, u6, u7, u8, u9, u10]) rfl ?_
    refine ⟨_, rfl, ⟨_, _, rfl, ?_, ?_⟩, hK05.then hOW (fun i hi e => by omega)⟩
    · exact owns_base (owns_only hvc hOW (fun i hi e => by (have hi2 : w.heap.size + 1 ≤ i := by simpa using hi); omega)) (by simp)
    · exact owns_base (owns_only hvf hOW (fun i hi e => by (have hi2 : w.heap.size + 1 ≤ i := by simpa using hi); omega)) (by simp)

set_option maxRecDepth 100000 in
set_option maxHeartbeats 1000000 in
theorem cparse_meta (w : World) (b : ByteArray) (hb : b.size ≤ 4294967281) (r : Req) (n : Int) (hmeta : isMeta (headOf (tl b)) = true)
    (hcall : ∀ w0, Kept w w0 → Calls Tryz.prog 29 #[.string b] w0 fun e w' => ∃ v, e = .returned (.tuple #[v, .int .i64 n]) ∧ IsReq w' w0.heap.size r v ∧ Kept w0 w') :
    Calls Tryz.prog 22 #[.string b] w fun e w' => ∃ v, e = .returned (.tuple #[v, .int .i64 n]) ∧ IsReq w' w.heap.size r v ∧ Kept w w' := by
  obtain ⟨m, hm, hmle, hcut⟩ := cut2048 b
  obtain ⟨nm, hnm⟩ : ∃ nm, headOf (tl b) = nm := ⟨_, rfl⟩
  rw [hnm] at hmeta
  unfold headOf at hnm
  obtain ⟨t, ht⟩ : ∃ t, (tl b).take 2048 = t := ⟨_, rfl⟩
  rw [ht] at hcut hnm
  have htl : t.length ≤ 2048 := by rw [← ht]; simp; omega
  have hfl := firstLine_le t
  have hsk := skipB_le (firstLine t)
  have HNM := Lib.hid hnm; have HC := Lib.hid hcall; have HM := Lib.hid hmeta
  clear hnm ht hcall hmeta
  go_enter Tryz.func22, Tryz.ntmps22
  go_wp2_with fail
  refine (line_any t _ (by omega)).mono ?_
  rintro e w1 ⟨rfl, q1, rfl⟩
  go_wp2_with fail
  refine (trimLeft_blank (firstLine t) _).mono ?_
  rintro e w1 ⟨rfl, rfl⟩
  go_wp2_with fail
  refine (cut_any (skipB (firstLine t)) 32 _ (by omega)).mono ?_
  rintro e w1 ⟨rfl, q2, rfl⟩
  rw [HNM.out]
  obtain ⟨y, rfl⟩ : ∃ y, nm = [109, y] := by
    have hm := HM.out
    simp only [isMeta, decide_eq_true_eq, List.mem_cons, List.mem_nil_iff, or_false] at hm
    rcases hm with rfl | rfl | rfl | rfl | rfl | rfl <;> exact ⟨_, rfl⟩
  have g1 : 0 ≤ Lib.indexByte [110, 101, 103, 115, 100, 97] ((bs [109, y])[1]'(by show 1 < 2; omega)) := by
    have hm := HM.out
    show 0 ≤ Lib.indexByte [110, 101, 103, 115, 100, 97] y
    rw [indexByte_eq, if_pos]
    · omega
    · simpa [isMeta] using hm
  go_wp2_with (go_at_call 28; refine (Tryz.strings_IndexByte _ _ _).mono ?_; rintro e w' ⟨rfl, rfl⟩)
  refine (HC.out _ (((Only.refl _ w).alloc _).drewN (q1 + q2))).mono ?_
  rintro e w5 ⟨v5, rfl, ⟨vc, vf, rfl, hvc, hvf⟩, hK5⟩
  obtain ⟨a6, cap6, rfl⟩ := owns_slice hvc
  obtain ⟨a7, cap7, rfl⟩ := owns_slice hvf
  have hN5 := blk_only (blk_drewN (blk_new w (.cells zeroReq 35)) (q1 + q2)) hK5 id
  have hK05 : Kept w w5 := (((Only.refl _ w).alloc _).drewN (q1 + q2)).trans hK5
  have hs5 : w.heap.size + 1 ≤ w5.heap.size := by have := blk_lt hN5; omega
  have k0 := blk_cell hN5 0
  have z0 := blk_free hN5 0
  have k1 := blk_cell hN5 1
  have z1 := blk_free hN5 1
  have k2 := blk_cell hN5 2
  have z2 := blk_free hN5 2
  have k3 := blk_cell hN5 3
  have z3 := blk_free hN5 3
  have k4 := blk_cell hN5 4
  have z4 := blk_free hN5 4
  have k5 := blk_cell hN5 5
  have z5 := blk_free hN5 5
  have k6 := blk_cell hN5 6
  have z6 := blk_free hN5 6
  have k7 := blk_cell hN5 7
  have z7 := blk_free hN5 7
  have k8 := blk_cell hN5 8
  have z8 := blk_free hN5 8
  have k9 := blk_cell hN5 9
  have z9 := blk_free hN5 9
  have k10 := blk_cell hN5 10
  have z10 := blk_free hN5 10
  simp [zeroReq] at k0 k1 k2 k3 k4 k5 k6 k7 k8 k9 k10
  go_wp2_with fail
  have hW := blk_set11 hN5 rfl (.int .i64 r.kind) (.slice a6 r.cmds.length cap6) (.bool r.quiet) (.bool r.tokens) (.string (bs r.reply)) (.string (bs r.arg)) (.int .i64 r.skip) (.bool r.close) (.string (bs r.meta_)) (.slice a7 r.flags.length cap7) (.string (bs r.word))
  have hOW := only_set11 w5 w.heap.size (.int .i64 r.kind) (.slice a6 r.cmds.length cap6) (.bool r.quiet) (.bool r.tokens) (.string (bs r.reply)) (.string (bs r.arg)) (.int .i64 r.skip) (.bool r.close) (.string (bs r.meta_)) (.slice a7 r.flags.length cap7) (.string (bs r.word))
  have u0 := blk_cell hW 0
  have u1 := blk_cell hW 1
  have u2 := blk_cell hW 2
  have u3 := blk_cell hW 3
  have u4 := blk_cell hW 4
  have u5 := blk_cell hW 5
  have u6 := blk_cell hW 6
  have u7 := blk_cell hW 7
  have u8 := blk_cell hW 8
  have u9 := blk_cell hW 9
  have u10 := blk_cell hW 10
  simp only [List.getElem?_toArray, List.getElem?_cons_zero, List.getElem?_cons_succ] at u0 u1 u2 u3 u4 u5 u6 u7 u8 u9 u10
  refine bodyPost_ret (v := .tuple #[.agg #[.int .i64 r.kind, .slice a6 r.cmds.length cap6, .bool r.quiet, .bool r.tokens, .string (bs r.reply), .string (bs r.arg), .int .i64 r.skip, .bool r.close, .string (bs r.meta_), .slice a7 r.flags.length cap7, .string (bs r.word)], .int .i64 n]) (by simp [results, Tryz.results22, go_sem, u0, u1, u2, u3, u4, u5, u6, u7, u8, u9, u10]) rfl ?_
  refine ⟨_, rfl, ⟨_, _, rfl, ?_, ?_⟩, hK05.then hOW (fun i hi e => by omega)⟩
  · exact owns_base (owns_only hvc hOW (fun i hi e => by (have hi2 : w.heap.size + 1 ≤ i := by simpa using hi); omega)) (by simp)
  · exact owns_base (owns_only hvf hOW (fun i hi e => by (have hi2 : w.heap.size + 1 ≤ i := by simpa using hi); omega)) (by simp)

end Go.Proofs.YtnlabbclmngphaaGreatDoor
