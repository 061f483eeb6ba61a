/- What the law ConnEnds does: it answers true. No condition. -/
import Derived.Test.YtnlabbclmngphaaGreatDoorShownB
namespace Go.Proofs.YtnlabbclmngphaaGreatDoor
open Go.RowKit
set_option linter.unusedSimpArgs false
set_option linter.unusedVariables false
attribute [local go_sem ↓] run_min2 run_max2

theorem nil_app (c : ByteArray) : (⟨#[]⟩ : ByteArray) ++ c = c := by
  apply tl_inj
  rw [tl_append]
  rfl
theorem extract_all (c : ByteArray) : c.extract 0 c.size = c := by
  rw [extract_take, ← tl_length, List.take_length, bs_tl]

set_option maxRecDepth 100000 in
set_option maxHeartbeats 2000000 in
theorem connEnds_1 (w : World) (b c : ByteArray) (hb : b.size ≤ 9223372036854700000) (hc : c.size ≤ 9223372036854700000) (h1 : (b.size : Int) ≤ 3000) (h2 : (c.size : Int) ≤ 3000) : Calls Tryz.prog 7 #[.string b, .string c] w fun e w' => e = .returned (.bool true) ∧ Kept w w' := by
  have hB : (b).size ≤ 3000 := by first | omega | (rw [extract_take, size_bs, List.length_take]; omega)
  have hC : (c).size ≤ 3000 := by first | omega | (rw [extract_take, size_bs, List.length_take]; omega)
  have HB := Lib.hid hB; have HC := Lib.hid hC
  clear hB hC
  go_enter Tryz.func7, Tryz.ntmps7
  go_wp2_with fail
  refine (shown_calls _).mono ?_
  rintro e w0 ⟨rfl, hk0⟩
  go_wp2_with fail
  refine (conn_new _).mono ?_
  rintro e w1 ⟨rfl, h1, hk1, hs1⟩
  go_wp2_with fail
  refine (conn_feed w1 _ _ _ 0 (b) h1 (by omega) (by omega) (by decide) (by have := HB.out; omega)).mono ?_
  rintro e w2 ⟨rfl, h2, ho2⟩
  go_wp2_with fail
  refine (conn_put w2 _ _ _ _ _ (c) h2 (by have := HC.out; show 0 + _ ≤ _; omega)).mono ?_
  rintro e w3 ⟨rfl, h3, ho3⟩
  rw [nil_app (c)] at h3
  go_wp2_with fail
  refine (conn_hangup w3 _ _ _ _ _ h3).mono ?_
  rintro e w4 ⟨rfl, h4, ho4⟩
  go_wp2_with fail
  refine (next_ends w4 _ _ _ _ _ h4 rfl).mono ?_
  rintro e w5 ⟨rfl, hk5⟩
  have h5 := blk_only h4 hk5 id
  go_wp2_with fail
  refine (conn_feed_end _ _ _ _ _ _ (blk_alloc h5 _)).mono ?_
  rintro e w6 ⟨rfl, rfl⟩
  go_wp2_with fail
  refine (next_ends _ _ _ _ _ _ (blk_alloc h5 _) rfl).mono ?_
  rintro e w6 ⟨rfl, hk6⟩
  have h6 := blk_only (blk_alloc h5 _) hk6 id
  go_wp2_with fail
  refine (conn_sizes _ _ _ _ _ _ (blk_alloc h6 _)).mono ?_
  rintro e w7 ⟨rfl, n7, rfl⟩
  have h7 := blk_drewN (blk_alloc h6 (.cells #[.int .i64 0, .slice none 0 0, .bool false, .bool false, .string ⟨#[]⟩, .string ⟨#[]⟩, .int .i64 0, .bool false, .string ⟨#[]⟩, .slice none 0 0, .string ⟨#[]⟩] 35)) n7
  go_wp2_with fail
  refine (conn_ends _ _ _ _ _ _ h7).mono ?_
  rintro e w8 ⟨rfl, rfl⟩
  go_wp2_with fail
  refine (conn_write _ _ _ _ _ _ 5000 h7).mono ?_
  rintro e w9 ⟨rfl, h9, ho9⟩
  have hcut : cutN 5000 (c) = (c).size := by have := HC.out; unfold cutN; omega
  rw [hcut, extract_all]
  go_wp2_with fail
  go_ret
  refine ⟨rfl, ?_⟩
  have n : ∀ a b : World, Kept a b → Only (fun i => i = w0.heap.size) a b := fun _ _ h => h.mono fun _ _ h => h.elim
  have t1 := ((((n _ _ hk1).trans ho2).trans ho3).trans ho4).trans (n _ _ hk5)
  have t3 := ((((t1.alloc _).trans (n _ _ hk6)).alloc _).drewN n7).trans ho9
  have t4 : Kept w0 w9 := t3.mono fun i hi e => by omega
  exact hk0.trans t4
set_option maxRecDepth 100000 in
set_option maxHeartbeats 2000000 in
theorem connEnds_2 (w : World) (b c : ByteArray) (hb : b.size ≤ 9223372036854700000) (hc : c.size ≤ 9223372036854700000) (h1 : 3000 < (b.size : Int)) (h2 : (c.size : Int) ≤ 3000) : Calls Tryz.prog 7 #[.string b, .string c] w fun e w' => e = .returned (.bool true) ∧ Kept w w' := by
  have hB : (b.extract 0 3000).size ≤ 3000 := by first | omega | (rw [extract_take, size_bs, List.length_take]; omega)
  have hC : (c).size ≤ 3000 := by first | omega | (rw [extract_take, size_bs, List.length_take]; omega)
  have HB := Lib.hid hB; have HC := Lib.hid hC
  clear hB hC
  go_enter Tryz.func7, Tryz.ntmps7
  go_wp2_with fail
  refine (shown_calls _).mono ?_
  rintro e w0 ⟨rfl, hk0⟩
  go_wp2_with fail
  refine (conn_new _).mono ?_
  rintro e w1 ⟨rfl, h1, hk1, hs1⟩
  go_wp2_with fail
  refine (conn_feed w1 _ _ _ 0 (b.extract 0 3000) h1 (by omega) (by omega) (by decide) (by have := HB.out; omega)).mono ?_
  rintro e w2 ⟨rfl, h2, ho2⟩
  go_wp2_with fail
  refine (conn_put w2 _ _ _ _ _ (c) h2 (by have := HC.out; show 0 + _ ≤ _; omega)).mono ?_
  rintro e w3 ⟨rfl, h3, ho3⟩
  rw [nil_app (c)] at h3
  go_wp2_with fail
  refine (conn_hangup w3 _ _ _ _ _ h3).mono ?_
  rintro e w4 ⟨rfl, h4, ho4⟩
  go_wp2_with fail
  refine (next_ends w4 _ _ _ _ _ h4 rfl).mono ?_
  rintro e w5 ⟨rfl, hk5⟩
  have h5 := blk_only h4 hk5 id
  go_wp2_with fail
  refine (conn_feed_end _ _ _ _ _ _ (blk_alloc h5 _)).mono ?_
  rintro e w6 ⟨rfl, rfl⟩
  go_wp2_with fail
  refine (next_ends _ _ _ _ _ _ (blk_alloc h5 _) rfl).mono ?_
  rintro e w6 ⟨rfl, hk6⟩
  have h6 := blk_only (blk_alloc h5 _) hk6 id
  go_wp2_with fail
  refine (conn_sizes _ _ _ _ _ _ (blk_alloc h6 _)).mono ?_
  rintro e w7 ⟨rfl, n7, rfl⟩
  have h7 := blk_drewN (blk_alloc h6 (.cells #[.int .i64 0, .slice none 0 0, .bool false, .bool false, .string ⟨#[]⟩, .string ⟨#[]⟩, .int .i64 0, .bool false, .string ⟨#[]⟩, .slice none 0 0, .string ⟨#[]⟩] 35)) n7
  go_wp2_with fail
  refine (conn_ends _ _ _ _ _ _ h7).mono ?_
  rintro e w8 ⟨rfl, rfl⟩
  go_wp2_with fail
  refine (conn_write _ _ _ _ _ _ 5000 h7).mono ?_
  rintro e w9 ⟨rfl, h9, ho9⟩
  have hcut : cutN 5000 (c) = (c).size := by have := HC.out; unfold cutN; omega
  rw [hcut, extract_all]
  go_wp2_with fail
  go_ret
  refine ⟨rfl, ?_⟩
  have n : ∀ a b : World, Kept a b → Only (fun i => i = w0.heap.size) a b := fun _ _ h => h.mono fun _ _ h => h.elim
  have t1 := ((((n _ _ hk1).trans ho2).trans ho3).trans ho4).trans (n _ _ hk5)
  have t3 := ((((t1.alloc _).trans (n _ _ hk6)).alloc _).drewN n7).trans ho9
  have t4 : Kept w0 w9 := t3.mono fun i hi e => by omega
  exact hk0.trans t4
set_option maxRecDepth 100000 in
set_option maxHeartbeats 2000000 in
theorem connEnds_3 (w : World) (b c : ByteArray) (hb : b.size ≤ 9223372036854700000) (hc : c.size ≤ 9223372036854700000) (h1 : (b.size : Int) ≤ 3000) (h2 : 3000 < (c.size : Int)) : Calls Tryz.prog 7 #[.string b, .string c] w fun e w' => e = .returned (.bool true) ∧ Kept w w' := by
  have hB : (b).size ≤ 3000 := by first | omega | (rw [extract_take, size_bs, List.length_take]; omega)
  have hC : (c.extract 0 3000).size ≤ 3000 := by first | omega | (rw [extract_take, size_bs, List.length_take]; omega)
  have HB := Lib.hid hB; have HC := Lib.hid hC
  clear hB hC
  go_enter Tryz.func7, Tryz.ntmps7
  go_wp2_with fail
  refine (shown_calls _).mono ?_
  rintro e w0 ⟨rfl, hk0⟩
  go_wp2_with fail
  refine (conn_new _).mono ?_
  rintro e w1 ⟨rfl, h1, hk1, hs1⟩
  go_wp2_with fail
  refine (conn_feed w1 _ _ _ 0 (b) h1 (by omega) (by omega) (by decide) (by have := HB.out; omega)).mono ?_
  rintro e w2 ⟨rfl, h2, ho2⟩
  go_wp2_with fail
  refine (conn_put w2 _ _ _ _ _ (c.extract 0 3000) h2 (by have := HC.out; show 0 + _ ≤ _; omega)).mono ?_
  rintro e w3 ⟨rfl, h3, ho3⟩
  rw [nil_app (c.extract 0 3000)] at h3
  go_wp2_with fail
  refine (conn_hangup w3 _ _ _ _ _ h3).mono ?_
  rintro e w4 ⟨rfl, h4, ho4⟩
  go_wp2_with fail
  refine (next_ends w4 _ _ _ _ _ h4 rfl).mono ?_
  rintro e w5 ⟨rfl, hk5⟩
  have h5 := blk_only h4 hk5 id
  go_wp2_with fail
  refine (conn_feed_end _ _ _ _ _ _ (blk_alloc h5 _)).mono ?_
  rintro e w6 ⟨rfl, rfl⟩
  go_wp2_with fail
  refine (next_ends _ _ _ _ _ _ (blk_alloc h5 _) rfl).mono ?_
  rintro e w6 ⟨rfl, hk6⟩
  have h6 := blk_only (blk_alloc h5 _) hk6 id
  go_wp2_with fail
  refine (conn_sizes _ _ _ _ _ _ (blk_alloc h6 _)).mono ?_
  rintro e w7 ⟨rfl, n7, rfl⟩
  have h7 := blk_drewN (blk_alloc h6 (.cells #[.int .i64 0, .slice none 0 0, .bool false, .bool false, .string ⟨#[]⟩, .string ⟨#[]⟩, .int .i64 0, .bool false, .string ⟨#[]⟩, .slice none 0 0, .string ⟨#[]⟩] 35)) n7
  go_wp2_with fail
  refine (conn_ends _ _ _ _ _ _ h7).mono ?_
  rintro e w8 ⟨rfl, rfl⟩
  go_wp2_with fail
  refine (conn_write _ _ _ _ _ _ 5000 h7).mono ?_
  rintro e w9 ⟨rfl, h9, ho9⟩
  have hcut : cutN 5000 (c.extract 0 3000) = (c.extract 0 3000).size := by have := HC.out; unfold cutN; omega
  rw [hcut, extract_all]
  go_wp2_with fail
  go_ret
  refine ⟨rfl, ?_⟩
  have n : ∀ a b : World, Kept a b → Only (fun i => i = w0.heap.size) a b := fun _ _ h => h.mono fun _ _ h => h.elim
  have t1 := ((((n _ _ hk1).trans ho2).trans ho3).trans ho4).trans (n _ _ hk5)
  have t3 := ((((t1.alloc _).trans (n _ _ hk6)).alloc _).drewN n7).trans ho9
  have t4 : Kept w0 w9 := t3.mono fun i hi e => by omega
  exact hk0.trans t4
set_option maxRecDepth 100000 in
set_option maxHeartbeats 2000000 in
theorem connEnds_4 (w : World) (b c : ByteArray) (hb : b.size ≤ 9223372036854700000) (hc : c.size ≤ 9223372036854700000) (h1 : 3000 < (b.size : Int)) (h2 : 3000 < (c.size : Int)) : Calls Tryz.prog 7 #[.string b, .string c] w fun e w' => e = .returned (.bool true) ∧ Kept w w' := by
  have hB : (b.extract 0 3000).size ≤ 3000 := by first | omega | (rw [extract_take, size_bs, List.length_take]; omega)
  have hC : (c.extract 0 3000).size ≤ 3000 := by first | omega | (rw [extract_take, size_bs, List.length_take]; omega)
  have HB := Lib.hid hB; have HC := Lib.hid hC
  clear hB hC
  go_enter Tryz.func7, Tryz.ntmps7
  go_wp2_with fail
  refine (shown_calls _).mono ?_
  rintro e w0 ⟨rfl, hk0⟩
  go_wp2_with fail
  refine (conn_new _).mono ?_
  rintro e w1 ⟨rfl, h1, hk1, hs1⟩
  go_wp2_with fail
  refine (conn_feed w1 _ _ _ 0 (b.extract 0 3000) h1 (by omega) (by omega) (by decide) (by have := HB.out; omega)).mono ?_
  rintro e w2 ⟨rfl, h2, ho2⟩
  go_wp2_with fail
  refine (conn_put w2 _ _ _ _ _ (c.extract 0 3000) h2 (by have := HC.out; show 0 + _ ≤ _; omega)).mono ?_
  rintro e w3 ⟨rfl, h3, ho3⟩
  rw [nil_app (c.extract 0 3000)] at h3
  go_wp2_with fail
  refine (conn_hangup w3 _ _ _ _ _ h3).mono ?_
  rintro e w4 ⟨rfl, h4, ho4⟩
  go_wp2_with fail
  refine (next_ends w4 _ _ _ _ _ h4 rfl).mono ?_
  rintro e w5 ⟨rfl, hk5⟩
  have h5 := blk_only h4 hk5 id
  go_wp2_with fail
  refine (conn_feed_end _ _ _ _ _ _ (blk_alloc h5 _)).mono ?_
  rintro e w6 ⟨rfl, rfl⟩
  go_wp2_with fail
  refine (next_ends _ _ _ _ _ _ (blk_alloc h5 _) rfl).mono ?_
  rintro e w6 ⟨rfl, hk6⟩
  have h6 := blk_only (blk_alloc h5 _) hk6 id
  go_wp2_with fail
  refine (conn_sizes _ _ _ _ _ _ (blk_alloc h6 _)).mono ?_
  rintro e w7 ⟨rfl, n7, rfl⟩
  have h7 := blk_drewN (blk_alloc h6 (.cells #[.int .i64 0, .slice none 0 0, .bool false, .bool false, .string ⟨#[]⟩, .string ⟨#[]⟩, .int .i64 0, .bool false, .string ⟨#[]⟩, .slice none 0 0, .string ⟨#[]⟩] 35)) n7
  go_wp2_with fail
  refine (conn_ends _ _ _ _ _ _ h7).mono ?_
  rintro e w8 ⟨rfl, rfl⟩
  go_wp2_with fail
  refine (conn_write _ _ _ _ _ _ 5000 h7).mono ?_
  rintro e w9 ⟨rfl, h9, ho9⟩
  have hcut : cutN 5000 (c.extract 0 3000) = (c.extract 0 3000).size := by have := HC.out; unfold cutN; omega
  rw [hcut, extract_all]
  go_wp2_with fail
  go_ret
  refine ⟨rfl, ?_⟩
  have n : ∀ a b : World, Kept a b → Only (fun i => i = w0.heap.size) a b := fun _ _ h => h.mono fun _ _ h => h.elim
  have t1 := ((((n _ _ hk1).trans ho2).trans ho3).trans ho4).trans (n _ _ hk5)
  have t3 := ((((t1.alloc _).trans (n _ _ hk6)).alloc _).drewN n7).trans ho9
  have t4 : Kept w0 w9 := t3.mono fun i hi e => by omega
  exact hk0.trans t4
theorem connEnds_walk (w : World) (b c : ByteArray) (hb : b.size ≤ 9223372036854700000) (hc : c.size ≤ 9223372036854700000) : Calls Tryz.prog 7 #[.string b, .string c] w fun e w' => e = .returned (.bool true) ∧ Kept w w' := by
  by_cases h1 : (b.size : Int) ≤ 3000
  · by_cases h2 : (c.size : Int) ≤ 3000
    · exact connEnds_1 w b c hb hc h1 h2
    · exact connEnds_3 w b c hb hc h1 (by omega)
  · by_cases h2 : (c.size : Int) ≤ 3000
    · exact connEnds_2 w b c hb hc (by omega) h2
    · exact connEnds_4 w b c hb hc (by omega) (by omega)
end Go.Proofs.YtnlabbclmngphaaGreatDoor
