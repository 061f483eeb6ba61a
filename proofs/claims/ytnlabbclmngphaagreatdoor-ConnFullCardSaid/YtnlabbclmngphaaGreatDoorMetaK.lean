/- What meta.bad does, and meta.kind at three names. Conditions: texts shorter than 2^32 bytes. -/
import Derived.Test.YtnlabbclmngphaaGreatDoorTextG
import Derived.Test.YtnlabbclmngphaaGreatDoorTextD
namespace Go.Proofs.YtnlabbclmngphaaGreatDoor
open Go.RowKit
set_option linter.unusedSimpArgs false
set_option linter.unusedVariables false
attribute [local go_sem ↓] run_min2 run_max2

theorem mbad_calls (s : List UInt8) (skip : Int) (w : World) :
    Calls Tryz.prog 42 #[.string (bs s), .int .i64 skip] w fun e w' => ∃ v, e = .returned v ∧ v = .agg #[.int .i64 2, .slice none 0 0, .bool false, .bool false, .string (bs s), .string ⟨#[]⟩, .int .i64 skip, .bool false, .string ⟨#[]⟩, .slice none 0 0, .string ⟨#[]⟩] ∧ Kept w w' := by
  go_enter Tryz.func42, Tryz.ntmps42
  go_wp2
  refine bodyPost_ret (v := .agg #[.int .i64 2, .slice none 0 0, .bool false, .bool false, .string (bs s), .string ⟨#[]⟩, .int .i64 skip, .bool false, .string ⟨#[]⟩, .slice none 0 0, .string ⟨#[]⟩]) (by simp [results, Tryz.results42, go_sem]) rfl ⟨_, rfl, rfl, (Only.refl _ _).alloc _⟩

def kindOp (name : List UInt8) : Int := if name = [109, 101] then 7 else if name = [109, 103] then 1 else if name = [109, 115] then 2 else if name = [109, 100] then 5 else if name = [109, 97] then 3 else 0

def kindDelta (name : List UInt8) : Int := if name = [109, 101] then 0 else if name = [109, 103] then 0 else if name = [109, 115] then 0 else if name = [109, 100] then 0 else if name = [109, 97] then 1 else 0

def kindFlags (name : List UInt8) : List UInt8 := if name = [109, 101] then [98] else if name = [109, 103] then [98, 99, 102, 107, 113, 115, 116, 118, 79, 78, 82, 84] else if name = [109, 115] then [98, 99, 107, 113, 73, 67, 70, 77, 79, 84] else if name = [109, 100] then [98, 107, 113, 73, 67, 79, 84] else if name = [109, 97] then [98, 99, 107, 113, 116, 118, 67, 68, 74, 77, 78, 79, 84] else []

set_option maxRecDepth 100000 in
set_option maxHeartbeats 1000000 in
theorem kind_me (w : World) :
    Calls Tryz.prog 44 #[.string (bs [109, 101])] w fun e w' => e = .returned (.tuple #[.agg #[.int .i64 7, .int .i64 0, .string ⟨#[]⟩, .string ⟨#[]⟩, .int .u32 0, .int .i64 0, .bool false, .int .u64 0, .bool false, .int .u64 0, .int .u64 0, .bool false, .bool false, .int .i64 0, .int .i64 (-1), .bool false], .string (bs [98])]) ∧ Kept w w' := by
  have e0 := eqs_yes (rfl : ([109, 101] : List UInt8) = [109, 101])
  go_enter Tryz.func44, Tryz.ntmps44
  go_wp2_with fail
  refine bodyPost_ret (v := .tuple #[.agg #[.int .i64 7, .int .i64 0, .string ⟨#[]⟩, .string ⟨#[]⟩, .int .u32 0, .int .i64 0, .bool false, .int .u64 0, .bool false, .int .u64 0, .int .u64 0, .bool false, .bool false, .int .i64 0, .int .i64 (-1), .bool false], .string (bs [98])]) (by simp [results, Tryz.results44, go_sem, bs]) rfl ⟨rfl, ?_⟩
  exact (Only.refl _ _).alloc _

set_option maxRecDepth 100000 in
set_option maxHeartbeats 1000000 in
theorem kind_mg (w : World) :
    Calls Tryz.prog 44 #[.string (bs [109, 103])] w fun e w' => e = .returned (.tuple #[.agg #[.int .i64 1, .int .i64 0, .string ⟨#[]⟩, .string ⟨#[]⟩, .int .u32 0, .int .i64 0, .bool false, .int .u64 0, .bool false, .int .u64 0, .int .u64 0, .bool false, .bool false, .int .i64 0, .int .i64 (-1), .bool false], .string (bs [98, 99, 102, 107, 113, 115, 116, 118, 79, 78, 82, 84])]) ∧ Kept w w' := by
  have e0 := eqs_no (show ([109, 103] : List UInt8) ≠ [109, 101] by decide)
  have e1 := eqs_yes (rfl : ([109, 103] : List UInt8) = [109, 103])
  go_enter Tryz.func44, Tryz.ntmps44
  go_wp2_with fail
  refine bodyPost_ret (v := .tuple #[.agg #[.int .i64 1, .int .i64 0, .string ⟨#[]⟩, .string ⟨#[]⟩, .int .u32 0, .int .i64 0, .bool false, .int .u64 0, .bool false, .int .u64 0, .int .u64 0, .bool false, .bool false, .int .i64 0, .int .i64 (-1), .bool false], .string (bs [98, 99, 102, 107, 113, 115, 116, 118, 79, 78, 82, 84])]) (by simp [results, Tryz.results44, go_sem, bs]) rfl ⟨rfl, ?_⟩
  exact (Only.refl _ _).alloc _

set_option maxRecDepth 100000 in
set_option maxHeartbeats 1000000 in
theorem kind_ms (w : World) :
    Calls Tryz.prog 44 #[.string (bs [109, 115])] w fun e w' => e = .returned (.tuple #[.agg #[.int .i64 2, .int .i64 0, .string ⟨#[]⟩, .string ⟨#[]⟩, .int .u32 0, .int .i64 0, .bool false, .int .u64 0, .bool false, .int .u64 0, .int .u64 0, .bool false, .bool false, .int .i64 0, .int .i64 (-1), .bool false], .string (bs [98, 99, 107, 113, 73, 67, 70, 77, 79, 84])]) ∧ Kept w w' := by
  have e0 := eqs_no (show ([109, 115] : List UInt8) ≠ [109, 101] by decide)
  have e1 := eqs_no (show ([109, 115] : List UInt8) ≠ [109, 103] by decide)
  have e2 := eqs_yes (rfl : ([109, 115] : List UInt8) = [109, 115])
  go_enter Tryz.func44, Tryz.ntmps44
  go_wp2_with fail
  refine bodyPost_ret (v := .tuple #[.agg #[.int .i64 2, .int .i64 0, .string ⟨#[]⟩, .string ⟨#[]⟩, .int .u32 0, .int .i64 0, .bool false, .int .u64 0, .bool false, .int .u64 0, .int .u64 0, .bool false, .bool false, .int .i64 0, .int .i64 (-1), .bool false], .string (bs [98, 99, 107, 113, 73, 67, 70, 77, 79, 84])]) (by simp [results, Tryz.results44, go_sem, bs]) rfl ⟨rfl, ?_⟩
  exact (Only.refl _ _).alloc _

end Go.Proofs.YtnlabbclmngphaaGreatDoor
