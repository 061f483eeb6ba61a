/- What meta.kind does, the other names. Conditions: texts shorter than 2^32 bytes. -/
import Derived.Test.YtnlabbclmngphaaGreatDoorMetaK
namespace Go.Proofs.YtnlabbclmngphaaGreatDoor
open Go.RowKit
set_option linter.unusedSimpArgs false
set_option linter.unusedVariables false
attribute [local go_sem ↓] run_min2 run_max2

set_option maxRecDepth 100000 in
set_option maxHeartbeats 1000000 in
theorem kind_md (w : World) :
    Calls Tryz.prog 44 #[.string (bs [109, 100])] w fun e w' => e = .returned (.tuple #[.agg #[.int .i64 5, .int .i64 0, .string ⟨#[]⟩, .string ⟨#[]⟩, .int .u32 0, .int .i64 0, .bool false, .int .u64 0, .bool false, .int .u64 0, .int .u64 0, .bool false, .bool false, .int .i64 0, .int .i64 (-1), .bool false], .string (bs [98, 107, 113, 73, 67, 79, 84])]) ∧ Kept w w' := by
  have e0 := eqs_no (show ([109, 100] : List UInt8) ≠ [109, 101] by decide)
  have e1 := eqs_no (show ([109, 100] : List UInt8) ≠ [109, 103] by decide)
  have e2 := eqs_no (show ([109, 100] : List UInt8) ≠ [109, 115] by decide)
  have e3 := eqs_yes (rfl : ([109, 100] : List UInt8) = [109, 100])
  go_enter Tryz.func44, Tryz.ntmps44
  go_wp2_with fail
  refine bodyPost_ret (v := .tuple #[.agg #[.int .i64 5, .int .i64 0, .string ⟨#[]⟩, .string ⟨#[]⟩, .int .u32 0, .int .i64 0, .bool false, .int .u64 0, .bool false, .int .u64 0, .int .u64 0, .bool false, .bool false, .int .i64 0, .int .i64 (-1), .bool false], .string (bs [98, 107, 113, 73, 67, 79, 84])]) (by simp [results, Tryz.results44, go_sem, bs]) rfl ⟨rfl, ?_⟩
  exact (Only.refl _ _).alloc _

set_option maxRecDepth 100000 in
set_option maxHeartbeats 1000000 in
theorem kind_ma (w : World) :
    Calls Tryz.prog 44 #[.string (bs [109, 97])] w fun e w' => e = .returned (.tuple #[.agg #[.int .i64 3, .int .i64 0, .string ⟨#[]⟩, .string ⟨#[]⟩, .int .u32 0, .int .i64 0, .bool false, .int .u64 0, .bool false, .int .u64 1, .int .u64 0, .bool false, .bool false, .int .i64 0, .int .i64 (-1), .bool false], .string (bs [98, 99, 107, 113, 116, 118, 67, 68, 74, 77, 78, 79, 84])]) ∧ Kept w w' := by
  have e0 := eqs_no (show ([109, 97] : List UInt8) ≠ [109, 101] by decide)
  have e1 := eqs_no (show ([109, 97] : List UInt8) ≠ [109, 103] by decide)
  have e2 := eqs_no (show ([109, 97] : List UInt8) ≠ [109, 115] by decide)
  have e3 := eqs_no (show ([109, 97] : List UInt8) ≠ [109, 100] by decide)
  have e4 := eqs_yes (rfl : ([109, 97] : List UInt8) = [109, 97])
  go_enter Tryz.func44, Tryz.ntmps44
  go_wp2_with fail
  refine bodyPost_ret (v := .tuple #[.agg #[.int .i64 3, .int .i64 0, .string ⟨#[]⟩, .string ⟨#[]⟩, .int .u32 0, .int .i64 0, .bool false, .int .u64 0, .bool false, .int .u64 1, .int .u64 0, .bool false, .bool false, .int .i64 0, .int .i64 (-1), .bool false], .string (bs [98, 99, 107, 113, 116, 118, 67, 68, 74, 77, 78, 79, 84])]) (by simp [results, Tryz.results44, go_sem, bs]) rfl ⟨rfl, ?_⟩
  exact (Only.refl _ _).alloc _

set_option maxRecDepth 100000 in
set_option maxHeartbeats 1000000 in
theorem kind_none (name : List UInt8) (w : World) (h0 : name ≠ [109, 101]) (h1 : name ≠ [109, 103]) (h2 : name ≠ [109, 115]) (h3 : name ≠ [109, 100]) (h4 : name ≠ [109, 97]) :
    Calls Tryz.prog 44 #[.string (bs name)] w fun e w' => e = .returned (.tuple #[.agg #[.int .i64 0, .int .i64 0, .string ⟨#[]⟩, .string ⟨#[]⟩, .int .u32 0, .int .i64 0, .bool false, .int .u64 0, .bool false, .int .u64 0, .int .u64 0, .bool false, .bool false, .int .i64 0, .int .i64 (-1), .bool false], .string (bs [])]) ∧ Kept w w' := by
  have e0 := eqs_no h0
  have e1 := eqs_no h1
  have e2 := eqs_no h2
  have e3 := eqs_no h3
  have e4 := eqs_no h4
  go_enter Tryz.func44, Tryz.ntmps44
  go_wp2_with fail
  refine bodyPost_ret (v := .tuple #[.agg #[.int .i64 0, .int .i64 0, .string ⟨#[]⟩, .string ⟨#[]⟩, .int .u32 0, .int .i64 0, .bool false, .int .u64 0, .bool false, .int .u64 0, .int .u64 0, .bool false, .bool false, .int .i64 0, .int .i64 (-1), .bool false], .string (bs [])]) (by simp [results, Tryz.results44, go_sem, bs]) rfl ⟨rfl, ?_⟩
  exact (Only.refl _ _).alloc _

theorem kind_calls (name : List UInt8) (w : World) :
    Calls Tryz.prog 44 #[.string (bs name)] w fun e w' => e = .returned (.tuple #[.agg #[.int .i64 (kindOp name), .int .i64 0, .string ⟨#[]⟩, .string ⟨#[]⟩, .int .u32 0, .int .i64 0, .bool false, .int .u64 0, .bool false, .int .u64 (kindDelta name), .int .u64 0, .bool false, .bool false, .int .i64 0, .int .i64 (-1), .bool false], .string (bs (kindFlags name))]) ∧ Kept w w' := by
  by_cases h0 : name = [109, 101]
  · subst h0; exact kind_me w
  by_cases h1 : name = [109, 103]
  · subst h1; exact kind_mg w
  by_cases h2 : name = [109, 115]
  · subst h2; exact kind_ms w
  by_cases h3 : name = [109, 100]
  · subst h3; exact kind_md w
  by_cases h4 : name = [109, 97]
  · subst h4; exact kind_ma w
  rw [show kindOp name = 0 from by simp [kindOp, h0, h1, h2, h3, h4]]
  rw [show kindDelta name = 0 from by simp [kindDelta, h0, h1, h2, h3, h4]]
  rw [show kindFlags name = [] from by simp [kindFlags, h0, h1, h2, h3, h4]]
  exact kind_none name w h0 h1 h2 h3 h4
end Go.Proofs.YtnlabbclmngphaaGreatDoor
