/- What the deferred call of line.read does: it recovers a fault; and finds nothing where the line was read. Conditions: none but where its variables lie. -/
import Derived.Test.YtnlabbclmngphaaGreatDoorTextD
import Derived.Recover
namespace Go.Proofs.YtnlabbclmngphaaGreatDoor
open Go.RowKit
set_option linter.unusedSimpArgs false
set_option linter.unusedVariables false

theorem rd_idle (p q : Addr) (w : World) :
    CallsD Tryz.prog 66 #[.pointer (some p), .pointer (some q)] .returning w fun e u' w' => e = .returned (.tuple #[]) ∧ u' = .returning ∧ w = w' := by
  refine callsD_of_wpS Tryz.func66 rfl fun c₀ cs hu => ?_
  apply wpS_seq
  apply wpS_region
  simp [wpOpsS, go_sem, recoverD, hu, Tryz.ntmps66, Exit.thenS]
  refine wpS_of_wp ?_
  go_wp2
  cases c₀
  simp_all [bodyPostS, results, Tryz.results66]

theorem assert_fault (s : ByteArray) (w : World) : (Instr.typeAssert (.iface 103 (.string s)) 20 103 true).run Tryz.prog w = .ok (.tuple #[.string s, .bool true]) w := by kernel_rfl
/-- What bad makes of a text, as a value. -/
def badVal (f : List UInt8) : Value := .agg #[.int .i64 2, .slice none 0 0, .bool false, .bool false, .string (bs f), .string ⟨#[]⟩, .int .i64 0, .bool false, .string ⟨#[]⟩, .slice none 0 0, .string ⟨#[]⟩]

set_option maxRecDepth 100000 in
set_option maxHeartbeats 1000000 in
theorem rd_catch (p q : Nat) (f : List UInt8) (w : World) (vs : Array Value) (b : Bool) (hp : w.heap[p]? = some (.cells vs 35 (0, 0))) (hs : vs.size = 11) (hq : w.heap[q]? = some (.cells #[.bool b] 4 (0, 0))) (hpq : p ≠ q) :
    CallsD Tryz.prog 66 #[.pointer (some ⟨p, 0, none⟩), .pointer (some ⟨q, 0, none⟩)] (.panicking [{ v := .iface 103 (.string (bs f)), recovered := false }]) w fun e u' w' =>
      e = .returned (.tuple #[]) ∧ u' = .panicking [{ v := .iface 103 (.string (bs f)), recovered := true }] ∧
      w'.heap[p]? = some (.cells #[.int .i64 2, .slice none 0 0, .bool false, .bool false, .string (bs f), .string ⟨#[]⟩, .int .i64 0, .bool false, .string ⟨#[]⟩, .slice none 0 0, .string ⟨#[]⟩] 35 (0, 0)) ∧
      w'.heap[q]? = some (.cells #[.bool false] 4 (0, 0)) ∧ Only (fun i => i = p ∨ i = q) w w' := by
  refine callsD_of_wpS Tryz.func66 rfl fun c₀ cs hu => ?_
  apply wpS_seq
  apply wpS_region
  simp [wpOpsS, go_sem, recoverD, hu, Tryz.ntmps66, Exit.thenS]
  refine wpS_of_wp ?_
  simp only [Array.replicate_succ, Array.replicate_zero, List.push_toArray, List.append_toArray, List.nil_append, List.cons_append, List.setIfInBounds_toArray, List.set_cons_succ, List.set_cons_zero]
  have hta := assert_fault
  go_wp2_with fail
  refine (bad_calls f _).mono ?_
  rintro e w2 ⟨v, rfl, rfl, hk⟩
  have hp2 := blk_only hp hk id
  have hq2 := blk_only hq hk id
  have m0 := blk_cell hq2 0
  have n0 := blk_free hq2 0
  simp at m0
  obtain ⟨x0, x1, x2, x3, x4, x5, x6, x7, x8, x9, x10, rfl⟩ : ∃ x0 x1 x2 x3 x4 x5 x6 x7 x8 x9 x10, vs = #[x0, x1, x2, x3, x4, x5, x6, x7, x8, x9, x10] := by
    match vs, hs with
    | ⟨[a0, a1, a2, a3, a4, a5, a6, a7, a8, a9, a10]⟩, _ => exact ⟨a0, a1, a2, a3, a4, a5, a6, a7, a8, a9, a10, rfl⟩
  have k0 := blk_cell hp2 0
  have z0 := blk_free hp2 0
  have k1 := blk_cell hp2 1
  have z1 := blk_free hp2 1
  have k2 := blk_cell hp2 2
  have z2 := blk_free hp2 2
  have k3 := blk_cell hp2 3
  have z3 := blk_free hp2 3
  have k4 := blk_cell hp2 4
  have z4 := blk_free hp2 4
  have k5 := blk_cell hp2 5
  have z5 := blk_free hp2 5
  have k6 := blk_cell hp2 6
  have z6 := blk_free hp2 6
  have k7 := blk_cell hp2 7
  have z7 := blk_free hp2 7
  have k8 := blk_cell hp2 8
  have z8 := blk_free hp2 8
  have k9 := blk_cell hp2 9
  have z9 := blk_free hp2 9
  have k10 := blk_cell hp2 10
  have z10 := blk_free hp2 10
  simp at k0 k1 k2 k3 k4 k5 k6 k7 k8 k9 k10
  have HP := Lib.hid hp2; have HQ := Lib.hid hq2; have HK := Lib.hid hk; have HU := Lib.hid hu
  clear hp hp2 hq hq2 hk hs hu
  go_wp2_with fail
  have hW := blk_set11 HP.out rfl (.int .i64 2) (.slice none 0 0) (.bool false) (.bool false) (.string (bs f)) (.string ⟨#[]⟩) (.int .i64 0) (.bool false) (.string ⟨#[]⟩) (.slice none 0 0) (.string ⟨#[]⟩)
  have hOW := only_set11 w2 p (.int .i64 2) (.slice none 0 0) (.bool false) (.bool false) (.string (bs f)) (.string ⟨#[]⟩) (.int .i64 0) (.bool false) (.string ⟨#[]⟩) (.slice none 0 0) (.string ⟨#[]⟩)
  refine ⟨rfl, _, rfl, _, results_none rfl _ _ _, rfl, rfl, blk_set_other hW hpq 0 none _, ?_, ?_⟩
  · exact (blk_set (blk_only HQ.out hOW (fun e => hpq e.symm)) 0 _).trans (by simp)
  · have hm : Only (fun i => i = p ∨ i = q) w w2 := HK.out.mono (fun _ _ h => h.elim)
    exact (hm.then hOW (fun i _ e => .inl e)).setCell (.inr (.inr rfl)) _
end Go.Proofs.YtnlabbclmngphaaGreatDoor
