/- What shown does: the small case that must work. No condition. -/
import Derived.Test.YtnlabbclmngphaaGreatDoorShownA
namespace Go.Proofs.YtnlabbclmngphaaGreatDoor
open Go.RowKit
set_option linter.unusedSimpArgs false
set_option linter.unusedVariables false
attribute [local go_sem ↓] run_min2 run_max2

set_option maxRecDepth 100000 in
set_option maxHeartbeats 1000000 in
theorem shown_calls (w : World) : Calls Tryz.prog 8 #[] w fun e w' => e = .returned (.bool true) ∧ Kept w w' := by
  go_enter Tryz.func8, Tryz.ntmps8
  go_wp2_with fail
  refine (conn_new _).mono ?_
  rintro e w1 ⟨rfl, h1, hk1, hs1⟩
  obtain ⟨g, hg⟩ : ∃ g, w.heap.size = g := ⟨_, rfl⟩
  rw [hg] at h1 ⊢
  have HK1 := Lib.hid hk1; have HS1 := Lib.hid hs1; have HG := Lib.hid hg
  clear hk1 hs1 hg
  go_wp2_with fail
  refine (feed_one _ g h1).mono ?_
  rintro e w2 ⟨rfl, h2, ho2⟩
  have HO2 := Lib.hid ho2
  clear h1 ho2
  go_wp2_with fail
  refine (next_first _ g h2).mono ?_
  rintro e w3 ⟨rfl, hk3⟩
  have h3 := blk_only h2 hk3 id
  have HK3 := Lib.hid hk3
  clear h2 hk3
  go_wp2_with fail
  refine (feed_two _ g (blk_alloc h3 _)).mono ?_
  rintro e w4 ⟨rfl, h4, ho4⟩
  have HO4 := Lib.hid ho4
  clear h3 ho4
  go_wp2_with fail
  refine (next_get _ g h4).mono ?_
  rintro e w5 ⟨v5, rfl, ⟨vc, vf, rfl, hvc, hvf⟩, h5, ho5⟩
  obtain ⟨a6, cap6, rfl⟩ := owns_slice hvc
  obtain ⟨a7, cap7, rfl⟩ := owns_slice hvf
  have HO5 := Lib.hid ho5
  clear h4 ho5 hvc hvf
  go_wp2_with fail
  refine (next_mn _ g (blk_alloc h5 _)).mono ?_
  rintro e w6 ⟨v6, rfl, ⟨vc, vf, rfl, hvc, hvf⟩, h6, ho6⟩
  obtain ⟨a8, cap8, rfl⟩ := owns_slice hvc
  obtain ⟨a9, cap9, rfl⟩ := owns_slice hvf
  have HO6 := Lib.hid ho6
  have hg5 := blk_lt h5
  clear h5 ho6 hvc hvf
  go_wp2_with fail
  refine (put_one _ g (blk_alloc h6 _)).mono ?_
  rintro e w7 ⟨rfl, h7, ho7⟩
  have HO7 := Lib.hid ho7
  have hg6 := blk_lt h6
  have b5 := blk_only (blk_alloc (blk_only (blk_new w5 _) HO6.out (show ¬ w5.heap.size = g by omega)) _) ho7 (show ¬ w5.heap.size = g by omega)
  have b6 := blk_only (blk_new w6 _) ho7 (show ¬ w6.heap.size = g by omega)
  have r5 := blk_cell b5 0
  have r6 := blk_cell b6 0
  simp [rGet, rMn] at r5 r6
  clear h6 ho7 b5 b6
  go_wp2_with fail
  refine (write_one _ g h7).mono ?_
  rintro e w8 ⟨rfl, h8, ho8⟩
  have HO8 := Lib.hid ho8
  clear h7 ho8 r5 r6
  go_wp2_with fail
  refine (write_two _ g h8).mono ?_
  rintro e w9 ⟨rfl, h9, ho9⟩
  have HO9 := Lib.hid ho9
  clear h8 ho9
  go_wp2_with fail
  refine (conn_ends _ g _ _ _ _ h9).mono ?_
  rintro e w10 ⟨rfl, rfl⟩
  go_wp2_with fail
  go_ret
  refine ⟨rfl, ?_⟩
  have hg := HG.out
  have k1 := HK1.out
  have t2 : Only (fun i => i = g) w w2 := k1.mono (fun _ _ h => h.elim) |>.trans HO2.out
  have n : ∀ a b : World, Kept a b → Only (fun i => i = g) a b := fun _ _ h => h.mono fun _ _ h => h.elim
  have t3 := t2.trans (n _ _ HK3.out)
  have t4 := (t3.alloc _).trans HO4.out
  have t5 := t4.trans HO5.out
  have t6 := (t5.alloc _).trans HO6.out
  have t7 := (t6.alloc _).trans HO7.out
  have t9 := (t7.trans HO8.out).trans HO9.out
  exact t9.mono fun i hi e => by omega
end Go.Proofs.YtnlabbclmngphaaGreatDoor
