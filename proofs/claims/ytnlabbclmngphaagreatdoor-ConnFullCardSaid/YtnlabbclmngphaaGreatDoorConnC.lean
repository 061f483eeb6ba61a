/- What Conn.Next does. Conditions: what came is shorter than 70000 bytes; what conn.parse does comes in as a premise. -/
import Derived.Test.YtnlabbclmngphaaGreatDoorConnB
namespace Go.Proofs.YtnlabbclmngphaaGreatDoor
open Go.RowKit
set_option linter.unusedSimpArgs false
set_option linter.unusedVariables false
attribute [local go_sem ↓] run_min2 run_max2

set_option maxRecDepth 100000 in
set_option maxHeartbeats 1000000 in
theorem next_ends (w : World) (g : Nat) (i o : ByteArray) (skip : Int) (ends : Bool) (h : w.heap[g]? = some (connObj i o skip ends)) (he : ends = true) :
    Calls Tryz.prog 12 #[.pointer (some ⟨g, 0, none⟩)] w fun e w' => e = .returned (.tuple #[.agg #[.int .i64 0, .slice none 0 0, .bool false, .bool false, .string ⟨#[]⟩, .string ⟨#[]⟩, .int .i64 0, .bool false, .string ⟨#[]⟩, .slice none 0 0, .string ⟨#[]⟩], .bool false]) ∧ Kept w w' := by
  subst he
  have c3 := blk_cell h 3
  simp at c3
  have hlt := blk_lt h
  clear h
  go_enter Tryz.func12, Tryz.ntmps12
  go_wp2_with fail
  refine bodyPost_ret (v := .tuple #[.agg #[.int .i64 0, .slice none 0 0, .bool false, .bool false, .string ⟨#[]⟩, .string ⟨#[]⟩, .int .i64 0, .bool false, .string ⟨#[]⟩, .slice none 0 0, .string ⟨#[]⟩], .bool false]) (by simp [results, Tryz.results12, go_sem]) rfl ?_
  exact ⟨rfl, (Only.refl _ _).alloc _⟩

set_option maxRecDepth 100000 in
set_option maxHeartbeats 1000000 in
theorem next_full (w : World) (g : Nat) (i o : ByteArray) (skip : Int) (ends : Bool) (h : w.heap[g]? = some (connObj i o skip ends)) (he : ends = false) (ho : 100000 ≤ o.size) :
    Calls Tryz.prog 12 #[.pointer (some ⟨g, 0, none⟩)] w fun e w' => e = .returned (.tuple #[.agg #[.int .i64 0, .slice none 0 0, .bool false, .bool false, .string ⟨#[]⟩, .string ⟨#[]⟩, .int .i64 0, .bool false, .string ⟨#[]⟩, .slice none 0 0, .string ⟨#[]⟩], .bool false]) ∧ Kept w w' := by
  subst he
  have c1 := blk_cell h 1
  simp at c1
  have c3 := blk_cell h 3
  simp at c3
  have hlt := blk_lt h
  have hO : (100000 : Int) ≤ (o.size : Int) := by omega
  clear h ho
  go_enter Tryz.func12, Tryz.ntmps12
  go_wp2_with fail
  refine bodyPost_ret (v := .tuple #[.agg #[.int .i64 0, .slice none 0 0, .bool false, .bool false, .string ⟨#[]⟩, .string ⟨#[]⟩, .int .i64 0, .bool false, .string ⟨#[]⟩, .slice none 0 0, .string ⟨#[]⟩], .bool false]) (by simp [results, Tryz.results12, go_sem]) rfl ?_
  exact ⟨rfl, (Only.refl _ _).alloc _⟩

set_option maxRecDepth 100000 in
set_option maxHeartbeats 1000000 in
theorem next_none (w : World) (g : Nat) (i o : ByteArray) (skip : Int) (ends : Bool) (h : w.heap[g]? = some (connObj i o skip ends)) (he : ends = false) (ho : o.size < 100000) (r : Req) (n : Int) (hr : r.kind = 0) (hcall : ∀ w0, Kept w w0 → Calls Tryz.prog 22 #[.string i] w0 fun e w' => ∃ v, e = .returned (.tuple #[v, .int .i64 n]) ∧ IsReq w' w0.heap.size r v ∧ Kept w0 w') :
    Calls Tryz.prog 12 #[.pointer (some ⟨g, 0, none⟩)] w fun e w' => e = .returned (.tuple #[.agg #[.int .i64 0, .slice none 0 0, .bool false, .bool false, .string ⟨#[]⟩, .string ⟨#[]⟩, .int .i64 0, .bool false, .string ⟨#[]⟩, .slice none 0 0, .string ⟨#[]⟩], .bool false]) ∧ Kept w w' := by
  subst he
  have c0 := blk_cell h 0
  simp at c0
  have c1 := blk_cell h 1
  simp at c1
  have c3 := blk_cell h 3
  simp at c3
  have hlt := blk_lt h
  have H := Lib.hid h; have HC := Lib.hid hcall
  have hO : ((100000 : Int) ≤ (o.size : Int)) = False := eq_false (by omega)
  clear h hcall ho
  go_enter Tryz.func12, Tryz.ntmps12
  go_wp2_with fail
  refine (HC.out (w.alloc (.cells zeroReq 35)) ((Only.refl _ w).alloc _)).mono ?_
  rintro e w5 ⟨v5, rfl, ⟨vc, vf, rfl, hvc, hvf⟩, hK5⟩
  obtain ⟨a6, cap6, rfl⟩ := owns_slice hvc
  obtain ⟨a7, cap7, rfl⟩ := owns_slice hvf
  have hN5 := blk_only (blk_new w (.cells zeroReq 35)) hK5 id
  have hK05 : Kept w w5 := ((Only.refl _ w).alloc _).trans hK5
  have hg5 := blk_only H.out hK05 id
  have hs5 : w.heap.size + 1 ≤ w5.heap.size := by have := blk_lt hN5; omega
  have HR := Lib.hid hr
  clear hr
  obtain ⟨W6, hW6⟩ : ∃ W6, w5.alloc (.cells #[.int .i64 r.kind, .slice a6 r.cmds.length cap6, .bool r.quiet, .bool r.tokens, .string (bs r.reply), .string (bs r.arg), .int .i64 r.skip, .bool r.close, .string (bs r.meta_), .slice a7 r.flags.length cap7, .string (bs r.word)] 35) = W6 := ⟨_, rfl⟩
  have hN6 : W6.heap[w.heap.size]? = some (.cells zeroReq 35 (0, 0)) := by rw [← hW6]; exact blk_alloc hN5 _
  have hR6 : W6.heap[w5.heap.size]? = some (.cells #[.int .i64 r.kind, .slice a6 r.cmds.length cap6, .bool r.quiet, .bool r.tokens, .string (bs r.reply), .string (bs r.arg), .int .i64 r.skip, .bool r.close, .string (bs r.meta_), .slice a7 r.flags.length cap7, .string (bs r.word)] 35 (0, 0)) := by rw [← hW6]; exact blk_new _ _
  have y0 := blk_cell hR6 0
  simp at y0
  rw [HR.out] at y0
  have k0 := blk_cell hN6 0
  have z0 := blk_free hN6 0
  have k1 := blk_cell hN6 1
  have z1 := blk_free hN6 1
  have k2 := blk_cell hN6 2
  have z2 := blk_free hN6 2
  have k3 := blk_cell hN6 3
  have z3 := blk_free hN6 3
  have k4 := blk_cell hN6 4
  have z4 := blk_free hN6 4
  have k5 := blk_cell hN6 5
  have z5 := blk_free hN6 5
  have k6 := blk_cell hN6 6
  have z6 := blk_free hN6 6
  have k7 := blk_cell hN6 7
  have z7 := blk_free hN6 7
  have k8 := blk_cell hN6 8
  have z8 := blk_free hN6 8
  have k9 := blk_cell hN6 9
  have z9 := blk_free hN6 9
  have k10 := blk_cell hN6 10
  have z10 := blk_free hN6 10
  simp [zeroReq] at k0 k1 k2 k3 k4 k5 k6 k7 k8 k9 k10
  go_wp2_with fail
  have hW := blk_set11 hN6 rfl (.int .i64 0) (.slice none 0 0) (.bool false) (.bool false) (.string ⟨#[]⟩) (.string ⟨#[]⟩) (.int .i64 0) (.bool false) (.string ⟨#[]⟩) (.slice none 0 0) (.string ⟨#[]⟩)
  have hOW := only_set11 W6 w.heap.size (.int .i64 0) (.slice none 0 0) (.bool false) (.bool false) (.string ⟨#[]⟩) (.string ⟨#[]⟩) (.int .i64 0) (.bool false) (.string ⟨#[]⟩) (.slice none 0 0) (.string ⟨#[]⟩)
  have q0 := blk_cell hW 0
  have q1 := blk_cell hW 1
  have q2 := blk_cell hW 2
  have q3 := blk_cell hW 3
  have q4 := blk_cell hW 4
  have q5 := blk_cell hW 5
  have q6 := blk_cell hW 6
  have q7 := blk_cell hW 7
  have q8 := blk_cell hW 8
  have q9 := blk_cell hW 9
  have q10 := blk_cell hW 10
  simp only [List.getElem?_toArray, List.getElem?_cons_zero, List.getElem?_cons_succ] at q0 q1 q2 q3 q4 q5 q6 q7 q8 q9 q10
  refine bodyPost_ret (v := .tuple #[.agg #[.int .i64 0, .slice none 0 0, .bool false, .bool false, .string ⟨#[]⟩, .string ⟨#[]⟩, .int .i64 0, .bool false, .string ⟨#[]⟩, .slice none 0 0, .string ⟨#[]⟩], .bool false]) (by simp [results, Tryz.results12, go_sem, q0, q1, q2, q3, q4, q5, q6, q7, q8, q9, q10]) rfl ?_
  have hO6 : Kept w5 W6 := by rw [← hW6]; exact (Only.refl _ w5).alloc _
  exact ⟨rfl, (hK05.trans hO6).then hOW (fun i hi e => by omega)⟩

set_option maxRecDepth 100000 in
set_option maxHeartbeats 1000000 in
theorem next_some (w : World) (g : Nat) (i o : ByteArray) (skip : Int) (ends : Bool) (h : w.heap[g]? = some (connObj i o skip ends)) (he : ends = false) (ho : o.size < 100000) (hi : i.size ≤ 70000) (r : Req) (n : Nat) (p : Nat) (hr : r.kind ≠ 0) (hn : n ≤ i.size) (hk : 0 ≤ r.skip) (hk2 : r.skip ≤ 9223372036854775807) (hp : min r.skip ((i.size : Int) - n) = p) (hcl : r.close = false) (hcall : ∀ w0, Kept w w0 → Calls Tryz.prog 22 #[.string i] w0 fun e w' => ∃ v, e = .returned (.tuple #[v, .int .i64 n]) ∧ IsReq w' w0.heap.size r v ∧ Kept w0 w') :
    Calls Tryz.prog 12 #[.pointer (some ⟨g, 0, none⟩)] w fun e w' => ∃ v, e = .returned (.tuple #[v, .bool true]) ∧ IsReq w' w.heap.size r v ∧ w'.heap[g]? = some (connObj (i.extract (n + p) i.size) o (r.skip - p) false) ∧ Only (· = g) w w' := by
  subst he
  have c0 := blk_cell h 0
  simp at c0
  have c1 := blk_cell h 1
  simp at c1
  have c3 := blk_cell h 3
  simp at c3
  have hlt := blk_lt h
  have H := Lib.hid h; have HC := Lib.hid hcall
  have hO : ((100000 : Int) ≤ (o.size : Int)) = False := eq_false (by omega)
  clear h hcall ho
  go_enter Tryz.func12, Tryz.ntmps12
  go_wp2_with fail
  refine (HC.out (w.alloc (.cells zeroReq 35)) ((Only.refl _ w).alloc _)).mono ?_
  rintro e w5 ⟨v5, rfl, ⟨vc, vf, rfl, hvc, hvf⟩, hK5⟩
  obtain ⟨a6, cap6, rfl⟩ := owns_slice hvc
  obtain ⟨a7, cap7, rfl⟩ := owns_slice hvf
  have hN5 := blk_only (blk_new w (.cells zeroReq 35)) hK5 id
  have hK05 : Kept w w5 := ((Only.refl _ w).alloc _).trans hK5
  have hg5 := blk_only H.out hK05 id
  have hs5 : w.heap.size + 1 ≤ w5.heap.size := by have := blk_lt hN5; omega
  have hgz : g ≠ w.heap.size := by omega
  have hgz5 : g ≠ w5.heap.size := by omega
  have hzz5 : w.heap.size ≠ w5.heap.size := by omega
  have hpn : p ≤ i.size - n := by omega
  have hr0 : (r.kind == 0) = false := by simpa using hr
  have HCL := Lib.hid hcl
  clear hcl
  obtain ⟨W6, hW6⟩ : ∃ W6, w5.alloc (.cells #[.int .i64 r.kind, .slice a6 r.cmds.length cap6, .bool r.quiet, .bool r.tokens, .string (bs r.reply), .string (bs r.arg), .int .i64 r.skip, .bool r.close, .string (bs r.meta_), .slice a7 r.flags.length cap7, .string (bs r.word)] 35) = W6 := ⟨_, rfl⟩
  have hN6 : W6.heap[w.heap.size]? = some (.cells zeroReq 35 (0, 0)) := by rw [← hW6]; exact blk_alloc hN5 _
  have hR6 : W6.heap[w5.heap.size]? = some (.cells #[.int .i64 r.kind, .slice a6 r.cmds.length cap6, .bool r.quiet, .bool r.tokens, .string (bs r.reply), .string (bs r.arg), .int .i64 r.skip, .bool r.close, .string (bs r.meta_), .slice a7 r.flags.length cap7, .string (bs r.word)] 35 (0, 0)) := by rw [← hW6]; exact blk_new _ _
  have hg6 : W6.heap[g]? = some (connObj i o skip false) := by rw [← hW6]; exact blk_alloc hg5 _
  have hO6 : Kept w5 W6 := by rw [← hW6]; exact (Only.refl _ w5).alloc _
  have y0 := blk_cell hR6 0
  have y6 := blk_cell hR6 6
  simp at y0 y6
  clear c0 c1 c3
  have c0 := blk_cell hg6 0
  simp at c0
  have c2 := blk_cell hg6 2
  simp at c2
  have c3 := blk_cell hg6 3
  simp at c3
  have f0 := blk_free hg6 0
  have f2 := blk_free hg6 2
  have HGZ := Lib.hid hgz; have HZZ5 := Lib.hid hzz5
  clear hgz hzz5
  go_wp2_with fail
  go_region
  go_wp2_with fail
  go_region
  obtain ⟨W7, hW7⟩ : ∃ W7, ((W6.setCell ⟨g, 0, none⟩ (.string (i.extract (n + p) i.size))).setCell ⟨g, 2, none⟩ (.int .i64 (r.skip - p))).drew.drew = W7 := ⟨_, rfl⟩
  rw [hW7]
  have hO7 : Only (· = g) W6 W7 := by rw [← hW7]; exact ((((Only.refl (· = g) W6).setCell (.inr rfl) _).setCell (.inr rfl) _).drew).drew
  have hg7 : W7.heap[g]? = some (connObj (i.extract (n + p) i.size) o (r.skip - p) false) := by
    rw [← hW7]; exact (blk_set (blk_set hg6 _ _) _ _).trans (by simp [connObj])
  have hN7 := blk_only hN6 hO7 HGZ.out.symm
  have hR7 := blk_only hR6 hO7 hgz5.symm
  have x7 := blk_cell hR7 7
  simp at x7
  rw [HCL.out] at x7
  have HN7 := Lib.hid hN7; have HR7 := Lib.hid hR7; have HG7 := Lib.hid hg7
  have hK : Only (· = g) w W7 := ((hK05.trans hO6).mono (fun _ _ h => h.elim)).trans hO7
  have HK := Lib.hid hK
  have h57 : Only (· = g) w5 W7 := (hO6.mono (fun _ _ h => h.elim)).trans hO7
  have H57 := Lib.hid h57
  clear h57 hN7 hR7 hg7 hW7 hO7 hK hN6 hR6 hg6 hO6 hW6 y0 y6 c0 c2 c3 f0 f2 hN5 hg5
  have k0 := blk_cell HN7.out 0
  have z0 := blk_free HN7.out 0
  have k1 := blk_cell HN7.out 1
  have z1 := blk_free HN7.out 1
  have k2 := blk_cell HN7.out 2
  have z2 := blk_free HN7.out 2
  have k3 := blk_cell HN7.out 3
  have z3 := blk_free HN7.out 3
  have k4 := blk_cell HN7.out 4
  have z4 := blk_free HN7.out 4
  have k5 := blk_cell HN7.out 5
  have z5 := blk_free HN7.out 5
  have k6 := blk_cell HN7.out 6
  have z6 := blk_free HN7.out 6
  have k7 := blk_cell HN7.out 7
  have z7 := blk_free HN7.out 7
  have k8 := blk_cell HN7.out 8
  have z8 := blk_free HN7.out 8
  have k9 := blk_cell HN7.out 9
  have z9 := blk_free HN7.out 9
  have k10 := blk_cell HN7.out 10
  have z10 := blk_free HN7.out 10
  simp [zeroReq] at k0 k1 k2 k3 k4 k5 k6 k7 k8 k9 k10
  have y0 := blk_cell HR7.out 0
  have y1 := blk_cell HR7.out 1
  have y2 := blk_cell HR7.out 2
  have y3 := blk_cell HR7.out 3
  have y4 := blk_cell HR7.out 4
  have y5 := blk_cell HR7.out 5
  have y6 := blk_cell HR7.out 6
  have y7 := blk_cell HR7.out 7
  have y8 := blk_cell HR7.out 8
  have y9 := blk_cell HR7.out 9
  have y10 := blk_cell HR7.out 10
  simp at y0 y1 y2 y3 y4 y5 y6 y7 y8 y9 y10
  go_wp2_with fail
  have hW := blk_set11 HN7.out rfl (.int .i64 r.kind) (.slice a6 r.cmds.length cap6) (.bool r.quiet) (.bool r.tokens) (.string (bs r.reply)) (.string (bs r.arg)) (.int .i64 r.skip) (.bool false) (.string (bs r.meta_)) (.slice a7 r.flags.length cap7) (.string (bs r.word))
  have hOW := only_set11 W7 w.heap.size (.int .i64 r.kind) (.slice a6 r.cmds.length cap6) (.bool r.quiet) (.bool r.tokens) (.string (bs r.reply)) (.string (bs r.arg)) (.int .i64 r.skip) (.bool false) (.string (bs r.meta_)) (.slice a7 r.flags.length cap7) (.string (bs r.word))
  have q0 := blk_cell hW 0
  have q1 := blk_cell hW 1
  have q2 := blk_cell hW 2
  have q3 := blk_cell hW 3
  have q4 := blk_cell hW 4
  have q5 := blk_cell hW 5
  have q6 := blk_cell hW 6
  have q7 := blk_cell hW 7
  have q8 := blk_cell hW 8
  have q9 := blk_cell hW 9
  have q10 := blk_cell hW 10
  simp only [List.getElem?_toArray, List.getElem?_cons_zero, List.getElem?_cons_succ] at q0 q1 q2 q3 q4 q5 q6 q7 q8 q9 q10
  refine bodyPost_ret (v := .tuple #[.agg #[.int .i64 r.kind, .slice a6 r.cmds.length cap6, .bool r.quiet, .bool r.tokens, .string (bs r.reply), .string (bs r.arg), .int .i64 r.skip, .bool false, .string (bs r.meta_), .slice a7 r.flags.length cap7, .string (bs r.word)], .bool true]) (by simp [results, Tryz.results12, go_sem, q0, q1, q2, q3, q4, q5, q6, q7, q8, q9, q10]) rfl ?_
  have hOs : w5.heap.size ≤ W7.heap.size := Nat.le_of_lt (blk_lt HR7.out)
  have HS := HZZ5.out
  have hF : Only (fun k => k = g ∨ k = w.heap.size) w5 _ := (H57.out.mono (T := fun k => k = g ∨ k = w.heap.size) (fun _ _ h => Or.inl h)).trans (hOW.mono (fun _ _ h => Or.inr h))
  refine ⟨_, rfl, ⟨_, _, by rw [HCL.out], ?_, ?_⟩, blk_only HG7.out hOW HGZ.out, HK.out.then hOW (fun i hi e => by omega)⟩
  · exact owns_base (owns_only hvc hF (fun i hi e => by (have hi2 : w.heap.size + 1 ≤ i := by simpa using hi); omega)) (by simp)
  · exact owns_base (owns_only hvf hF (fun i hi e => by (have hi2 : w.heap.size + 1 ≤ i := by simpa using hi); omega)) (by simp)

set_option maxRecDepth 100000 in
set_option maxHeartbeats 1000000 in
theorem next_close (w : World) (g : Nat) (i o : ByteArray) (skip : Int) (ends : Bool) (h : w.heap[g]? = some (connObj i o skip ends)) (he : ends = false) (ho : o.size < 100000) (hi : i.size ≤ 70000) (r : Req) (n : Nat) (p : Nat) (hr : r.kind ≠ 0) (hn : n ≤ i.size) (hk : 0 ≤ r.skip) (hk2 : r.skip ≤ 9223372036854775807) (hp : min r.skip ((i.size : Int) - n) = p) (hcl : r.close = true) (hcall : ∀ w0, Kept w w0 → Calls Tryz.prog 22 #[.string i] w0 fun e w' => ∃ v, e = .returned (.tuple #[v, .int .i64 n]) ∧ IsReq w' w0.heap.size r v ∧ Kept w0 w') :
    Calls Tryz.prog 12 #[.pointer (some ⟨g, 0, none⟩)] w fun e w' => ∃ v, e = .returned (.tuple #[v, .bool true]) ∧ IsReq w' w.heap.size r v ∧ w'.heap[g]? = some (connObj ⟨#[]⟩ o (r.skip - p) true) ∧ Only (· = g) w w' := by
  subst he
  have c0 := blk_cell h 0
  simp at c0
  have c1 := blk_cell h 1
  simp at c1
  have c3 := blk_cell h 3
  simp at c3
  have hlt := blk_lt h
  have H := Lib.hid h; have HC := Lib.hid hcall
  have hO : ((100000 : Int) ≤ (o.size : Int)) = False := eq_false (by omega)
  clear h hcall ho
  go_enter Tryz.func12, Tryz.ntmps12
  go_wp2_with fail
  refine (HC.out (w.alloc (.cells zeroReq 35)) ((Only.refl _ w).alloc _)).mono ?_
  rintro e w5 ⟨v5, rfl, ⟨vc, vf, rfl, hvc, hvf⟩, hK5⟩
  obtain ⟨a6, cap6, rfl⟩ := owns_slice hvc
  obtain ⟨a7, cap7, rfl⟩ := owns_slice hvf
  have hN5 := blk_only (blk_new w (.cells zeroReq 35)) hK5 id
  have hK05 : Kept w w5 := ((Only.refl _ w).alloc _).trans hK5
  have hg5 := blk_only H.out hK05 id
  have hs5 : w.heap.size + 1 ≤ w5.heap.size := by have := blk_lt hN5; omega
  have hgz : g ≠ w.heap.size := by omega
  have hgz5 : g ≠ w5.heap.size := by omega
  have hzz5 : w.heap.size ≠ w5.heap.size := by omega
  have hpn : p ≤ i.size - n := by omega
  have hr0 : (r.kind == 0) = false := by simpa using hr
  have HCL := Lib.hid hcl
  clear hcl
  obtain ⟨W6, hW6⟩ : ∃ W6, w5.alloc (.cells #[.int .i64 r.kind, .slice a6 r.cmds.length cap6, .bool r.quiet, .bool r.tokens, .string (bs r.reply), .string (bs r.arg), .int .i64 r.skip, .bool r.close, .string (bs r.meta_), .slice a7 r.flags.length cap7, .string (bs r.word)] 35) = W6 := ⟨_, rfl⟩
  have hN6 : W6.heap[w.heap.size]? = some (.cells zeroReq 35 (0, 0)) := by rw [← hW6]; exact blk_alloc hN5 _
  have hR6 : W6.heap[w5.heap.size]? = some (.cells #[.int .i64 r.kind, .slice a6 r.cmds.length cap6, .bool r.quiet, .bool r.tokens, .string (bs r.reply), .string (bs r.arg), .int .i64 r.skip, .bool r.close, .string (bs r.meta_), .slice a7 r.flags.length cap7, .string (bs r.word)] 35 (0, 0)) := by rw [← hW6]; exact blk_new _ _
  have hg6 : W6.heap[g]? = some (connObj i o skip false) := by rw [← hW6]; exact blk_alloc hg5 _
  have hO6 : Kept w5 W6 := by rw [← hW6]; exact (Only.refl _ w5).alloc _
  have y0 := blk_cell hR6 0
  have y6 := blk_cell hR6 6
  simp at y0 y6
  clear c0 c1 c3
  have c0 := blk_cell hg6 0
  simp at c0
  have c2 := blk_cell hg6 2
  simp at c2
  have c3 := blk_cell hg6 3
  simp at c3
  have f0 := blk_free hg6 0
  have f2 := blk_free hg6 2
  have HGZ := Lib.hid hgz; have HZZ5 := Lib.hid hzz5
  clear hgz hzz5
  go_wp2_with fail
  go_region
  go_wp2_with fail
  go_region
  obtain ⟨W7, hW7⟩ : ∃ W7, ((W6.setCell ⟨g, 0, none⟩ (.string (i.extract (n + p) i.size))).setCell ⟨g, 2, none⟩ (.int .i64 (r.skip - p))).drew.drew = W7 := ⟨_, rfl⟩
  rw [hW7]
  have hO7 : Only (· = g) W6 W7 := by rw [← hW7]; exact ((((Only.refl (· = g) W6).setCell (.inr rfl) _).setCell (.inr rfl) _).drew).drew
  have hg7 : W7.heap[g]? = some (connObj (i.extract (n + p) i.size) o (r.skip - p) false) := by
    rw [← hW7]; exact (blk_set (blk_set hg6 _ _) _ _).trans (by simp [connObj])
  have hN7 := blk_only hN6 hO7 HGZ.out.symm
  have hR7 := blk_only hR6 hO7 hgz5.symm
  have x7 := blk_cell hR7 7
  simp at x7
  rw [HCL.out] at x7
  have HN7 := Lib.hid hN7; have HR7 := Lib.hid hR7; have HG7 := Lib.hid hg7
  have hK : Only (· = g) w W7 := ((hK05.trans hO6).mono (fun _ _ h => h.elim)).trans hO7
  have HK := Lib.hid hK
  have h57 : Only (· = g) w5 W7 := (hO6.mono (fun _ _ h => h.elim)).trans hO7
  have H57 := Lib.hid h57
  clear h57 hN7 hR7 hg7 hW7 hO7 hK hN6 hR6 hg6 hO6 hW6 y0 y6 c0 c2 c3 f0 f2 hN5 hg5
  go_wp2_with fail
  refine (conn_hangup W7 g _ _ _ _ HG7.out).mono ?_
  rintro e W8 ⟨rfl, hg8, hO8⟩
  have hN8 := blk_only HN7.out hO8 HGZ.out.symm
  have hR8 := blk_only HR7.out hO8 hgz5.symm
  have HG8 := Lib.hid hg8; have HO8 := Lib.hid (HK.out.trans hO8); have H58 := Lib.hid (H57.out.trans hO8)
  have k0 := blk_cell hN8 0
  have z0 := blk_free hN8 0
  have k1 := blk_cell hN8 1
  have z1 := blk_free hN8 1
  have k2 := blk_cell hN8 2
  have z2 := blk_free hN8 2
  have k3 := blk_cell hN8 3
  have z3 := blk_free hN8 3
  have k4 := blk_cell hN8 4
  have z4 := blk_free hN8 4
  have k5 := blk_cell hN8 5
  have z5 := blk_free hN8 5
  have k6 := blk_cell hN8 6
  have z6 := blk_free hN8 6
  have k7 := blk_cell hN8 7
  have z7 := blk_free hN8 7
  have k8 := blk_cell hN8 8
  have z8 := blk_free hN8 8
  have k9 := blk_cell hN8 9
  have z9 := blk_free hN8 9
  have k10 := blk_cell hN8 10
  have z10 := blk_free hN8 10
  simp [zeroReq] at k0 k1 k2 k3 k4 k5 k6 k7 k8 k9 k10
  have y0 := blk_cell hR8 0
  have y1 := blk_cell hR8 1
  have y2 := blk_cell hR8 2
  have y3 := blk_cell hR8 3
  have y4 := blk_cell hR8 4
  have y5 := blk_cell hR8 5
  have y6 := blk_cell hR8 6
  have y7 := blk_cell hR8 7
  have y8 := blk_cell hR8 8
  have y9 := blk_cell hR8 9
  have y10 := blk_cell hR8 10
  simp at y0 y1 y2 y3 y4 y5 y6 y7 y8 y9 y10
  go_wp2_with fail
  have hW := blk_set11 hN8 rfl (.int .i64 r.kind) (.slice a6 r.cmds.length cap6) (.bool r.quiet) (.bool r.tokens) (.string (bs r.reply)) (.string (bs r.arg)) (.int .i64 r.skip) (.bool r.close) (.string (bs r.meta_)) (.slice a7 r.flags.length cap7) (.string (bs r.word))
  have hOW := only_set11 W8 w.heap.size (.int .i64 r.kind) (.slice a6 r.cmds.length cap6) (.bool r.quiet) (.bool r.tokens) (.string (bs r.reply)) (.string (bs r.arg)) (.int .i64 r.skip) (.bool r.close) (.string (bs r.meta_)) (.slice a7 r.flags.length cap7) (.string (bs r.word))
  have q0 := blk_cell hW 0
  have q1 := blk_cell hW 1
  have q2 := blk_cell hW 2
  have q3 := blk_cell hW 3
  have q4 := blk_cell hW 4
  have q5 := blk_cell hW 5
  have q6 := blk_cell hW 6
  have q7 := blk_cell hW 7
  have q8 := blk_cell hW 8
  have q9 := blk_cell hW 9
  have q10 := blk_cell hW 10
  simp only [List.getElem?_toArray, List.getElem?_cons_zero, List.getElem?_cons_succ] at q0 q1 q2 q3 q4 q5 q6 q7 q8 q9 q10
  refine bodyPost_ret (v := .tuple #[.agg #[.int .i64 r.kind, .slice a6 r.cmds.length cap6, .bool r.quiet, .bool r.tokens, .string (bs r.reply), .string (bs r.arg), .int .i64 r.skip, .bool r.close, .string (bs r.meta_), .slice a7 r.flags.length cap7, .string (bs r.word)], .bool true]) (by simp [results, Tryz.results12, go_sem, q0, q1, q2, q3, q4, q5, q6, q7, q8, q9, q10]) rfl ?_
  have hOs : w5.heap.size ≤ W8.heap.size := Nat.le_of_lt (blk_lt hR8)
  have HS := HZZ5.out
  have hF : Only (fun k => k = g ∨ k = w.heap.size) w5 _ := (H58.out.mono (T := fun k => k = g ∨ k = w.heap.size) (fun _ _ h => Or.inl h)).trans (hOW.mono (fun _ _ h => Or.inr h))
  refine ⟨_, rfl, ⟨_, _, rfl, ?_, ?_⟩, blk_only HG8.out hOW HGZ.out, HO8.out.then hOW (fun i hi e => by omega)⟩
  · exact owns_base (owns_only hvc hF (fun i hi e => by (have hi2 : w.heap.size + 1 ≤ i := by simpa using hi); omega)) (by simp)
  · exact owns_base (owns_only hvf hF (fun i hi e => by (have hi2 : w.heap.size + 1 ≤ i := by simpa using hi); omega)) (by simp)

end Go.Proofs.YtnlabbclmngphaaGreatDoor
