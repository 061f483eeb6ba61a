/- What line.read does. Conditions: texts shorter than 2^32 bytes; what get, store and plain do comes in as a premise. -/
import Derived.Test.YtnlabbclmngphaaGreatDoorTextE
namespace Go.Proofs.YtnlabbclmngphaaGreatDoor
open Go.RowKit
set_option linter.unusedSimpArgs false
set_option linter.unusedVariables false

set_option maxRecDepth 100000 in
set_option maxHeartbeats 1000000 in
theorem read_get_ok (w : World) (g : Nat) (l : Line) (r : Req) (h : IsLine w g l) (hname : l.name = [103, 101, 116] ∨ l.name = [103, 101, 116, 115] ∨ l.name = [103, 97, 116] ∨ l.name = [103, 97, 116, 115])
    (hget : ∀ w0, Kept w w0 → IsLine w0 g l → Calls Tryz.prog 67 #[.pointer (some ⟨g, 0, none⟩)] w0 fun e w' => ∃ v, e = .returned v ∧ IsReq w' w0.heap.size r v ∧ Kept w0 w') :
    Calls Tryz.prog 47 #[.pointer (some ⟨g, 0, none⟩)] w fun e w' => ∃ v, e = .returned (.tuple #[v, .bool false]) ∧ IsReq w' w.heap.size r v ∧ Kept w w' := by
  have hmf : ∀ (fn : Fn) (first cap : Array Value) (w : World), (Instr.makeFunc fn first cap).run Tryz.prog w = .ok (.func fn first cap) w := fun _ _ _ _ => rfl
  obtain ⟨v, hb, hs, hv⟩ := id h
  have c0 := blk_cell hb 0
  simp at c0
  have hgl := blk_lt hb
  rcases hname with hn | hn | hn | hn
  · have e0 := eqs_yes (show l.name = [103, 101, 116] from hn)
    have H := Lib.hid h; have HG := Lib.hid hget
    clear hb hs hv h hget hn
    go_enter_defers Tryz.func47, Tryz.ntmps47
    go_wp2_with fail
    obtain ⟨W1, hW1⟩ : ∃ W1, (w.alloc (.cells zeroReq 35)).alloc (.cells #[.bool false] 4) = W1 := ⟨_, rfl⟩
    have hN0 : W1.heap[w.heap.size]? = some (.cells zeroReq 35 (0, 0)) := by rw [← hW1]; exact blk_alloc (blk_new _ _) _
    have hN1 : W1.heap[w.heap.size + 1]? = some (.cells #[.bool false] 4 (0, 0)) := by
      rw [← hW1]; have := blk_new (w.alloc (.cells zeroReq 35)) (.cells #[.bool false] 4); rwa [World.size_alloc] at this
    have hKW : Kept w W1 := by rw [← hW1]; exact ((Only.refl _ w).alloc _).alloc _
    have hs1 : W1.heap.size = w.heap.size + 2 := by rw [← hW1]; simp
    have hL1 := H.out.kept hKW
    refine (HG.out ((w.alloc (.cells zeroReq 35)).alloc (.cells #[.bool false] 4)) (hW1 ▸ hKW) (hW1 ▸ hL1)).mono ?_
    rintro e w2 ⟨v2, rfl, hreq, hK2⟩
    rw [hW1] at hreq hK2
    obtain ⟨vc, vf, rfl, hvc, hvf⟩ := hreq
    obtain ⟨a1, cap1, rfl⟩ := owns_slice hvc
    obtain ⟨a2, cap2, rfl⟩ := owns_slice hvf
    have hN0' := blk_only hN0 hK2 id
    have hN1' := blk_only hN1 hK2 id
    have m0 := blk_cell hN1' 0
    have n0 := blk_free hN1' 0
    simp at m0
    have k0 := blk_cell hN0' 0
    have z0 := blk_free hN0' 0
    have k1 := blk_cell hN0' 1
    have z1 := blk_free hN0' 1
    have k2 := blk_cell hN0' 2
    have z2 := blk_free hN0' 2
    have k3 := blk_cell hN0' 3
    have z3 := blk_free hN0' 3
    have k4 := blk_cell hN0' 4
    have z4 := blk_free hN0' 4
    have k5 := blk_cell hN0' 5
    have z5 := blk_free hN0' 5
    have k6 := blk_cell hN0' 6
    have z6 := blk_free hN0' 6
    have k7 := blk_cell hN0' 7
    have z7 := blk_free hN0' 7
    have k8 := blk_cell hN0' 8
    have z8 := blk_free hN0' 8
    have k9 := blk_cell hN0' 9
    have z9 := blk_free hN0' 9
    have k10 := blk_cell hN0' 10
    have z10 := blk_free hN0' 10
    simp [zeroReq] at k0 k1 k2 k3 k4 k5 k6 k7 k8 k9 k10
    have hz2 : w.heap.size + 2 ≤ w2.heap.size := by have := hK2.size; omega
    have HN0 := Lib.hid hN0'; have HN1 := Lib.hid hN1'; have HKW := Lib.hid hKW; have HK2 := Lib.hid hK2; have HVC := Lib.hid hvc; have HVF := Lib.hid hvf; have HS1 := Lib.hid hs1
    clear hN0 hN1 hN0' hN1' hKW hK2 hvc hvf hL1 hs1 hW1
    go_wp2_with fail
    refine leaves_cons (f := 66) (args := #[.pointer (some ⟨w.heap.size, 0, none⟩), .pointer (some ⟨w.heap.size + 1, 0, none⟩)]) (by simp) (by simp [go_sem]) ?_
    refine (rd_idle _ _ _).mono ?_
    rintro e u' w3 ⟨rfl, rfl, rfl⟩
    have hW := blk_set11 HN0.out rfl (.int .i64 r.kind) (.slice a1 r.cmds.length cap1) (.bool r.quiet) (.bool r.tokens) (.string (bs r.reply)) (.string (bs r.arg)) (.int .i64 r.skip) (.bool r.close) (.string (bs r.meta_)) (.slice a2 r.flags.length cap2) (.string (bs r.word))
    have hOW := only_set11 w2 w.heap.size (.int .i64 r.kind) (.slice a1 r.cmds.length cap1) (.bool r.quiet) (.bool r.tokens) (.string (bs r.reply)) (.string (bs r.arg)) (.int .i64 r.skip) (.bool r.close) (.string (bs r.meta_)) (.slice a2 r.flags.length cap2) (.string (bs r.word))
    have hW' := blk_set_other hW (show w.heap.size ≠ w.heap.size + 1 by omega) 0 none (.bool false)
    have hM' := blk_set (blk_only HN1.out hOW (fun e => by omega)) 0 (.bool false)
    have q0 := blk_cell hW' 0
    have q1 := blk_cell hW' 1
    have q2 := blk_cell hW' 2
    have q3 := blk_cell hW' 3
    have q4 := blk_cell hW' 4
    have q5 := blk_cell hW' 5
    have q6 := blk_cell hW' 6
    have q7 := blk_cell hW' 7
    have q8 := blk_cell hW' 8
    have q9 := blk_cell hW' 9
    have q10 := blk_cell hW' 10
    have q11 := blk_cell hM' 0
    simp only [List.getElem?_toArray, List.getElem?_cons_zero, List.getElem?_cons_succ, List.setIfInBounds_toArray, List.set_cons_zero] at q0 q1 q2 q3 q4 q5 q6 q7 q8 q9 q10 q11
    refine ⟨.tuple #[.agg #[.int .i64 r.kind, .slice a1 r.cmds.length cap1, .bool r.quiet, .bool r.tokens, .string (bs r.reply), .string (bs r.arg), .int .i64 r.skip, .bool r.close, .string (bs r.meta_), .slice a2 r.flags.length cap2, .string (bs r.word)], .bool false], by simp [results, Tryz.results47, go_sem, q0, q1, q2, q3, q4, q5, q6, q7, q8, q9, q10, q11], ?_⟩
    have hs := HS1.out
    have hO2 : Only (fun i => i = w.heap.size ∨ i = w.heap.size + 1) w2 _ := (hOW.mono (T := fun i => i = w.heap.size ∨ i = w.heap.size + 1) (fun i _ e => .inl e)).setCell (p := ⟨w.heap.size + 1, 0, none⟩) (.inr (.inr rfl)) (.bool false)
    refine ⟨_, rfl, ⟨_, _, rfl, ?_, ?_⟩, ?_⟩
    · exact owns_base (owns_only HVC.out hO2 (fun i hi e => by omega)) (by omega)
    · exact owns_base (owns_only HVF.out hO2 (fun i hi e => by omega)) (by omega)
    · exact (HKW.out.trans HK2.out).then hO2 (fun i hi e => by omega)
  · have e0 := eqs_no (show l.name ≠ [103, 101, 116] by rw [hn]; decide)
    have e1 := eqs_yes (show l.name = [103, 101, 116, 115] from hn)
    have H := Lib.hid h; have HG := Lib.hid hget
    clear hb hs hv h hget hn
    go_enter_defers Tryz.func47, Tryz.ntmps47
    go_wp2_with fail
    obtain ⟨W1, hW1⟩ : ∃ W1, (w.alloc (.cells zeroReq 35)).alloc (.cells #[.bool false] 4) = W1 := ⟨_, rfl⟩
    have hN0 : W1.heap[w.heap.size]? = some (.cells zeroReq 35 (0, 0)) := by rw [← hW1]; exact blk_alloc (blk_new _ _) _
    have hN1 : W1.heap[w.heap.size + 1]? = some (.cells #[.bool false] 4 (0, 0)) := by
      rw [← hW1]; have := blk_new (w.alloc (.cells zeroReq 35)) (.cells #[.bool false] 4); rwa [World.size_alloc] at this
    have hKW : Kept w W1 := by rw [← hW1]; exact ((Only.refl _ w).alloc _).alloc _
    have hs1 : W1.heap.size = w.heap.size + 2 := by rw [← hW1]; simp
    have hL1 := H.out.kept hKW
    refine (HG.out ((w.alloc (.cells zeroReq 35)).alloc (.cells #[.bool false] 4)) (hW1 ▸ hKW) (hW1 ▸ hL1)).mono ?_
    rintro e w2 ⟨v2, rfl, hreq, hK2⟩
    rw [hW1] at hreq hK2
    obtain ⟨vc, vf, rfl, hvc, hvf⟩ := hreq
    obtain ⟨a1, cap1, rfl⟩ := owns_slice hvc
    obtain ⟨a2, cap2, rfl⟩ := owns_slice hvf
    have hN0' := blk_only hN0 hK2 id
    have hN1' := blk_only hN1 hK2 id
    have m0 := blk_cell hN1' 0
    have n0 := blk_free hN1' 0
    simp at m0
    have k0 := blk_cell hN0' 0
    have z0 := blk_free hN0' 0
    have k1 := blk_cell hN0' 1
    have z1 := blk_free hN0' 1
    have k2 := blk_cell hN0' 2
    have z2 := blk_free hN0' 2
    have k3 := blk_cell hN0' 3
    have z3 := blk_free hN0' 3
    have k4 := blk_cell hN0' 4
    have z4 := blk_free hN0' 4
    have k5 := blk_cell hN0' 5
    have z5 := blk_free hN0' 5
    have k6 := blk_cell hN0' 6
    have z6 := blk_free hN0' 6
    have k7 := blk_cell hN0' 7
    have z7 := blk_free hN0' 7
    have k8 := blk_cell hN0' 8
    have z8 := blk_free hN0' 8
    have k9 := blk_cell hN0' 9
    have z9 := blk_free hN0' 9
    have k10 := blk_cell hN0' 10
    have z10 := blk_free hN0' 10
    simp [zeroReq] at k0 k1 k2 k3 k4 k5 k6 k7 k8 k9 k10
    have hz2 : w.heap.size + 2 ≤ w2.heap.size := by have := hK2.size; omega
    have HN0 := Lib.hid hN0'; have HN1 := Lib.hid hN1'; have HKW := Lib.hid hKW; have HK2 := Lib.hid hK2; have HVC := Lib.hid hvc; have HVF := Lib.hid hvf; have HS1 := Lib.hid hs1
    clear hN0 hN1 hN0' hN1' hKW hK2 hvc hvf hL1 hs1 hW1
    go_wp2_with fail
    refine leaves_cons (f := 66) (args := #[.pointer (some ⟨w.heap.size, 0, none⟩), .pointer (some ⟨w.heap.size + 1, 0, none⟩)]) (by simp) (by simp [go_sem]) ?_
    refine (rd_idle _ _ _).mono ?_
    rintro e u' w3 ⟨rfl, rfl, rfl⟩
    have hW := blk_set11 HN0.out rfl (.int .i64 r.kind) (.slice a1 r.cmds.length cap1) (.bool r.quiet) (.bool r.tokens) (.string (bs r.reply)) (.string (bs r.arg)) (.int .i64 r.skip) (.bool r.close) (.string (bs r.meta_)) (.slice a2 r.flags.length cap2) (.string (bs r.word))
    have hOW := only_set11 w2 w.heap.size (.int .i64 r.kind) (.slice a1 r.cmds.length cap1) (.bool r.quiet) (.bool r.tokens) (.string (bs r.reply)) (.string (bs r.arg)) (.int .i64 r.skip) (.bool r.close) (.string (bs r.meta_)) (.slice a2 r.flags.length cap2) (.string (bs r.word))
    have hW' := blk_set_other hW (show w.heap.size ≠ w.heap.size + 1 by omega) 0 none (.bool false)
    have hM' := blk_set (blk_only HN1.out hOW (fun e => by omega)) 0 (.bool false)
    have q0 := blk_cell hW' 0
    have q1 := blk_cell hW' 1
    have q2 := blk_cell hW' 2
    have q3 := blk_cell hW' 3
    have q4 := blk_cell hW' 4
    have q5 := blk_cell hW' 5
    have q6 := blk_cell hW' 6
    have q7 := blk_cell hW' 7
    have q8 := blk_cell hW' 8
    have q9 := blk_cell hW' 9
    have q10 := blk_cell hW' 10
    have q11 := blk_cell hM' 0
    simp only [List.getElem?_toArray, List.getElem?_cons_zero, List.getElem?_cons_succ, List.setIfInBounds_toArray, List.set_cons_zero] at q0 q1 q2 q3 q4 q5 q6 q7 q8 q9 q10 q11
    refine ⟨.tuple #[.agg #[.int .i64 r.kind, .slice a1 r.cmds.length cap1, .bool r.quiet, .bool r.tokens, .string (bs r.reply), .string (bs r.arg), .int .i64 r.skip, .bool r.close, .string (bs r.meta_), .slice a2 r.flags.length cap2, .string (bs r.word)], .bool false], by simp [results, Tryz.results47, go_sem, q0, q1, q2, q3, q4, q5, q6, q7, q8, q9, q10, q11], ?_⟩
    have hs := HS1.out
    have hO2 : Only (fun i => i = w.heap.size ∨ i = w.heap.size + 1) w2 _ := (hOW.mono (T := fun i => i = w.heap.size ∨ i = w.heap.size + 1) (fun i _ e => .inl e)).setCell (p := ⟨w.heap.size + 1, 0, none⟩) (.inr (.inr rfl)) (.bool false)
    refine ⟨_, rfl, ⟨_, _, rfl, ?_, ?_⟩, ?_⟩
    · exact owns_base (owns_only HVC.out hO2 (fun i hi e => by omega)) (by omega)
    · exact owns_base (owns_only HVF.out hO2 (fun i hi e => by omega)) (by omega)
    · exact (HKW.out.trans HK2.out).then hO2 (fun i hi e => by omega)
  · have e0 := eqs_no (show l.name ≠ [103, 101, 116] by rw [hn]; decide)
    have e1 := eqs_no (show l.name ≠ [103, 101, 116, 115] by rw [hn]; decide)
    have e2 := eqs_yes (show l.name = [103, 97, 116] from hn)
    have H := Lib.hid h; have HG := Lib.hid hget
    clear hb hs hv h hget hn
    go_enter_defers Tryz.func47, Tryz.ntmps47
    go_wp2_with fail
    obtain ⟨W1, hW1⟩ : ∃ W1, (w.alloc (.cells zeroReq 35)).alloc (.cells #[.bool false] 4) = W1 := ⟨_, rfl⟩
    have hN0 : W1.heap[w.heap.size]? = some (.cells zeroReq 35 (0, 0)) := by rw [← hW1]; exact blk_alloc (blk_new _ _) _
    have hN1 : W1.heap[w.heap.size + 1]? = some (.cells #[.bool false] 4 (0, 0)) := by
      rw [← hW1]; have := blk_new (w.alloc (.cells zeroReq 35)) (.cells #[.bool false] 4); rwa [World.size_alloc] at this
    have hKW : Kept w W1 := by rw [← hW1]; exact ((Only.refl _ w).alloc _).alloc _
    have hs1 : W1.heap.size = w.heap.size + 2 := by rw [← hW1]; simp
    have hL1 := H.out.kept hKW
    refine (HG.out ((w.alloc (.cells zeroReq 35)).alloc (.cells #[.bool false] 4)) (hW1 ▸ hKW) (hW1 ▸ hL1)).mono ?_
    rintro e w2 ⟨v2, rfl, hreq, hK2⟩
    rw [hW1] at hreq hK2
    obtain ⟨vc, vf, rfl, hvc, hvf⟩ := hreq
    obtain ⟨a1, cap1, rfl⟩ := owns_slice hvc
    obtain ⟨a2, cap2, rfl⟩ := owns_slice hvf
    have hN0' := blk_only hN0 hK2 id
    have hN1' := blk_only hN1 hK2 id
    have m0 := blk_cell hN1' 0
    have n0 := blk_free hN1' 0
    simp at m0
    have k0 := blk_cell hN0' 0
    have z0 := blk_free hN0' 0
    have k1 := blk_cell hN0' 1
    have z1 := blk_free hN0' 1
    have k2 := blk_cell hN0' 2
    have z2 := blk_free hN0' 2
    have k3 := blk_cell hN0' 3
    have z3 := blk_free hN0' 3
    have k4 := blk_cell hN0' 4
    have z4 := blk_free hN0' 4
    have k5 := blk_cell hN0' 5
    have z5 := blk_free hN0' 5
    have k6 := blk_cell hN0' 6
    have z6 := blk_free hN0' 6
    have k7 := blk_cell hN0' 7
    have z7 := blk_free hN0' 7
    have k8 := blk_cell hN0' 8
    have z8 := blk_free hN0' 8
    have k9 := blk_cell hN0' 9
    have z9 := blk_free hN0' 9
    have k10 := blk_cell hN0' 10
    have z10 := blk_free hN0' 10
    simp [zeroReq] at k0 k1 k2 k3 k4 k5 k6 k7 k8 k9 k10
    have hz2 : w.heap.size + 2 ≤ w2.heap.size := by have := hK2.size; omega
    have HN0 := Lib.hid hN0'; have HN1 := Lib.hid hN1'; have HKW := Lib.hid hKW; have HK2 := Lib.hid hK2; have HVC := Lib.hid hvc; have HVF := Lib.hid hvf; have HS1 := Lib.hid hs1
    clear hN0 hN1 hN0' hN1' hKW hK2 hvc hvf hL1 hs1 hW1
    go_wp2_with fail
    refine leaves_cons (f := 66) (args := #[.pointer (some ⟨w.heap.size, 0, none⟩), .pointer (some ⟨w.heap.size + 1, 0, none⟩)]) (by simp) (by simp [go_sem]) ?_
    refine (rd_idle _ _ _).mono ?_
    rintro e u' w3 ⟨rfl, rfl, rfl⟩
    have hW := blk_set11 HN0.out rfl (.int .i64 r.kind) (.slice a1 r.cmds.length cap1) (.bool r.quiet) (.bool r.tokens) (.string (bs r.reply)) (.string (bs r.arg)) (.int .i64 r.skip) (.bool r.close) (.string (bs r.meta_)) (.slice a2 r.flags.length cap2) (.string (bs r.word))
    have hOW := only_set11 w2 w.heap.size (.int .i64 r.kind) (.slice a1 r.cmds.length cap1) (.bool r.quiet) (.bool r.tokens) (.string (bs r.reply)) (.string (bs r.arg)) (.int .i64 r.skip) (.bool r.close) (.string (bs r.meta_)) (.slice a2 r.flags.length cap2) (.string (bs r.word))
    have hW' := blk_set_other hW (show w.heap.size ≠ w.heap.size + 1 by omega) 0 none (.bool false)
    have hM' := blk_set (blk_only HN1.out hOW (fun e => by omega)) 0 (.bool false)
    have q0 := blk_cell hW' 0
    have q1 := blk_cell hW' 1
    have q2 := blk_cell hW' 2
    have q3 := blk_cell hW' 3
    have q4 := blk_cell hW' 4
    have q5 := blk_cell hW' 5
    have q6 := blk_cell hW' 6
    have q7 := blk_cell hW' 7
    have q8 := blk_cell hW' 8
    have q9 := blk_cell hW' 9
    have q10 := blk_cell hW' 10
    have q11 := blk_cell hM' 0
    simp only [List.getElem?_toArray, List.getElem?_cons_zero, List.getElem?_cons_succ, List.setIfInBounds_toArray, List.set_cons_zero] at q0 q1 q2 q3 q4 q5 q6 q7 q8 q9 q10 q11
    refine ⟨.tuple #[.agg #[.int .i64 r.kind, .slice a1 r.cmds.length cap1, .bool r.quiet, .bool r.tokens, .string (bs r.reply), .string (bs r.arg), .int .i64 r.skip, .bool r.close, .string (bs r.meta_), .slice a2 r.flags.length cap2, .string (bs r.word)], .bool false], by simp [results, Tryz.results47, go_sem, q0, q1, q2, q3, q4, q5, q6, q7, q8, q9, q10, q11], ?_⟩
    have hs := HS1.out
    have hO2 : Only (fun i => i = w.heap.size ∨ i = w.heap.size + 1) w2 _ := (hOW.mono (T := fun i => i = w.heap.size ∨ i = w.heap.size + 1) (fun i _ e => .inl e)).setCell (p := ⟨w.heap.size + 1, 0, none⟩) (.inr (.inr rfl)) (.bool false)
    refine ⟨_, rfl, ⟨_, _, rfl, ?_, ?_⟩, ?_⟩
    · exact owns_base (owns_only HVC.out hO2 (fun i hi e => by omega)) (by omega)
    · exact owns_base (owns_only HVF.out hO2 (fun i hi e => by omega)) (by omega)
    · exact (HKW.out.trans HK2.out).then hO2 (fun i hi e => by omega)
  · have e0 := eqs_no (show l.name ≠ [103, 101, 116] by rw [hn]; decide)
    have e1 := eqs_no (show l.name ≠ [103, 101, 116, 115] by rw [hn]; decide)
    have e2 := eqs_no (show l.name ≠ [103, 97, 116] by rw [hn]; decide)
    have e3 := eqs_yes (show l.name = [103, 97, 116, 115] from hn)
    have H := Lib.hid h; have HG := Lib.hid hget
    clear hb hs hv h hget hn
    go_enter_defers Tryz.func47, Tryz.ntmps47
    go_wp2_with fail
    obtain ⟨W1, hW1⟩ : ∃ W1, (w.alloc (.cells zeroReq 35)).alloc (.cells #[.bool false] 4) = W1 := ⟨_, rfl⟩
    have hN0 : W1.heap[w.heap.size]? = some (.cells zeroReq 35 (0, 0)) := by rw [← hW1]; exact blk_alloc (blk_new _ _) _
    have hN1 : W1.heap[w.heap.size + 1]? = some (.cells #[.bool false] 4 (0, 0)) := by
      rw [← hW1]; have := blk_new (w.alloc (.cells zeroReq 35)) (.cells #[.bool false] 4); rwa [World.size_alloc] at this
    have hKW : Kept w W1 := by rw [← hW1]; exact ((Only.refl _ w).alloc _).alloc _
    have hs1 : W1.heap.size = w.heap.size + 2 := by rw [← hW1]; simp
    have hL1 := H.out.kept hKW
    refine (HG.out ((w.alloc (.cells zeroReq 35)).alloc (.cells #[.bool false] 4)) (hW1 ▸ hKW) (hW1 ▸ hL1)).mono ?_
    rintro e w2 ⟨v2, rfl, hreq, hK2⟩
    rw [hW1] at hreq hK2
    obtain ⟨vc, vf, rfl, hvc, hvf⟩ := hreq
    obtain ⟨a1, cap1, rfl⟩ := owns_slice hvc
    obtain ⟨a2, cap2, rfl⟩ := owns_slice hvf
    have hN0' := blk_only hN0 hK2 id
    have hN1' := blk_only hN1 hK2 id
    have m0 := blk_cell hN1' 0
    have n0 := blk_free hN1' 0
    simp at m0
    have k0 := blk_cell hN0' 0
    have z0 := blk_free hN0' 0
    have k1 := blk_cell hN0' 1
    have z1 := blk_free hN0' 1
    have k2 := blk_cell hN0' 2
    have z2 := blk_free hN0' 2
    have k3 := blk_cell hN0' 3
    have z3 := blk_free hN0' 3
    have k4 := blk_cell hN0' 4
    have z4 := blk_free hN0' 4
    have k5 := blk_cell hN0' 5
    have z5 := blk_free hN0' 5
    have k6 := blk_cell hN0' 6
    have z6 := blk_free hN0' 6
    have k7 := blk_cell hN0' 7
    have z7 := blk_free hN0' 7
    have k8 := blk_cell hN0' 8
    have z8 := blk_free hN0' 8
    have k9 := blk_cell hN0' 9
    have z9 := blk_free hN0' 9
    have k10 := blk_cell hN0' 10
    have z10 := blk_free hN0' 10
    simp [zeroReq] at k0 k1 k2 k3 k4 k5 k6 k7 k8 k9 k10
    have hz2 : w.heap.size + 2 ≤ w2.heap.size := by have := hK2.size; omega
    have HN0 := Lib.hid hN0'; have HN1 := Lib.hid hN1'; have HKW := Lib.hid hKW; have HK2 := Lib.hid hK2; have HVC := Lib.hid hvc; have HVF := Lib.hid hvf; have HS1 := Lib.hid hs1
    clear hN0 hN1 hN0' hN1' hKW hK2 hvc hvf hL1 hs1 hW1
    go_wp2_with fail
    refine leaves_cons (f := 66) (args := #[.pointer (some ⟨w.heap.size, 0, none⟩), .pointer (some ⟨w.heap.size + 1, 0, none⟩)]) (by simp) (by simp [go_sem]) ?_
    refine (rd_idle _ _ _).mono ?_
    rintro e u' w3 ⟨rfl, rfl, rfl⟩
    have hW := blk_set11 HN0.out rfl (.int .i64 r.kind) (.slice a1 r.cmds.length cap1) (.bool r.quiet) (.bool r.tokens) (.string (bs r.reply)) (.string (bs r.arg)) (.int .i64 r.skip) (.bool r.close) (.string (bs r.meta_)) (.slice a2 r.flags.length cap2) (.string (bs r.word))
    have hOW := only_set11 w2 w.heap.size (.int .i64 r.kind) (.slice a1 r.cmds.length cap1) (.bool r.quiet) (.bool r.tokens) (.string (bs r.reply)) (.string (bs r.arg)) (.int .i64 r.skip) (.bool r.close) (.string (bs r.meta_)) (.slice a2 r.flags.length cap2) (.string (bs r.word))
    have hW' := blk_set_other hW (show w.heap.size ≠ w.heap.size + 1 by omega) 0 none (.bool false)
    have hM' := blk_set (blk_only HN1.out hOW (fun e => by omega)) 0 (.bool false)
    have q0 := blk_cell hW' 0
    have q1 := blk_cell hW' 1
    have q2 := blk_cell hW' 2
    have q3 := blk_cell hW' 3
    have q4 := blk_cell hW' 4
    have q5 := blk_cell hW' 5
    have q6 := blk_cell hW' 6
    have q7 := blk_cell hW' 7
    have q8 := blk_cell hW' 8
    have q9 := blk_cell hW' 9
    have q10 := blk_cell hW' 10
    have q11 := blk_cell hM' 0
    simp only [List.getElem?_toArray, List.getElem?_cons_zero, List.getElem?_cons_succ, List.setIfInBounds_toArray, List.set_cons_zero] at q0 q1 q2 q3 q4 q5 q6 q7 q8 q9 q10 q11
    refine ⟨.tuple #[.agg #[.int .i64 r.kind, .slice a1 r.cmds.length cap1, .bool r.quiet, .bool r.tokens, .string (bs r.reply), .string (bs r.arg), .int .i64 r.skip, .bool r.close, .string (bs r.meta_), .slice a2 r.flags.length cap2, .string (bs r.word)], .bool false], by simp [results, Tryz.results47, go_sem, q0, q1, q2, q3, q4, q5, q6, q7, q8, q9, q10, q11], ?_⟩
    have hs := HS1.out
    have hO2 : Only (fun i => i = w.heap.size ∨ i = w.heap.size + 1) w2 _ := (hOW.mono (T := fun i => i = w.heap.size ∨ i = w.heap.size + 1) (fun i _ e => .inl e)).setCell (p := ⟨w.heap.size + 1, 0, none⟩) (.inr (.inr rfl)) (.bool false)
    refine ⟨_, rfl, ⟨_, _, rfl, ?_, ?_⟩, ?_⟩
    · exact owns_base (owns_only HVC.out hO2 (fun i hi e => by omega)) (by omega)
    · exact owns_base (owns_only HVF.out hO2 (fun i hi e => by omega)) (by omega)
    · exact (HKW.out.trans HK2.out).then hO2 (fun i hi e => by omega)
end Go.Proofs.YtnlabbclmngphaaGreatDoor
