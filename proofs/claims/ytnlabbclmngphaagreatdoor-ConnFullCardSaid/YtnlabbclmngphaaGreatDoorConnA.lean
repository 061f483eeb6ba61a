/- What conn's small calls do: Put, Write, Hangup, Ends, Sizes, New. Conditions: the texts' lengths together fit. -/
import Derived.Test.YtnlabbclmngphaaGreatDoorProg
import Derived.Test.YtnlabbclmngphaaGreatDoorHeapA
import Derived.WalkKit
import Derived.WalkLawsBesides
import Derived.WalkSpells
import Derived.Deep.QuietTactic
import Derived.BigQuiet
namespace Go.Proofs.YtnlabbclmngphaaGreatDoor
open Go.RowKit

theorem run_min2 {P : Program} (w : World) (ts : Array TypeId) (t : TypeId) (k k' : IntKind) (x y : Int) : (Builtin.min_ ts t #[.int k x, .int k' y]).run P w = .ok (.int k (min x y)) w := by
  have e : (if y < x then y else x) = min x y := by omega
  simp [Builtin.min_, Builtin.min2, e]
theorem run_max2 {P : Program} (w : World) (ts : Array TypeId) (t : TypeId) (k k' : IntKind) (x y : Int) : (Builtin.max_ ts t #[.int k x, .int k' y]).run P w = .ok (.int k (max x y)) w := by
  have e : (if x < y then y else x) = max x y := by omega
  simp [Builtin.max_, Builtin.max2, e]
attribute [local go_sem ↓] run_min2 run_max2

/-- A connection's block. -/
def connObj (i o : ByteArray) (skip : Int) (ends : Bool) : Obj := .cells #[.string i, .string o, .int .i64 skip, .bool ends] 52 (0, 0)


set_option maxHeartbeats 400000 in
theorem conn_put (w : World) (g : Nat) (i o : ByteArray) (skip : Int) (ends : Bool) (s : ByteArray) (h : w.heap[g]? = some (connObj i o skip ends)) (_hs : o.size + s.size ≤ 9223372036854775807) :
    Calls Tryz.prog 15 #[.pointer (some ⟨g, 0, none⟩), .string s] w fun e w' =>
      e = .returned (.tuple #[]) ∧ w'.heap[g]? = some (connObj i (o ++ s) skip ends) ∧ Only (· = g) w w' := by
  have c1 := blk_cell h 1
  simp at c1
  have f1 := blk_free h 1
  have H := Lib.hid h; clear h
  go_enter Tryz.func15, Tryz.ntmps15
  go_wp2
  go_end0
  exact ⟨rfl, by rw [blk_set H.out]; simp [connObj], (Only.refl (· = g) w).setCell (.inr rfl) _⟩

set_option maxHeartbeats 400000 in
theorem conn_hangup (w : World) (g : Nat) (i o : ByteArray) (skip : Int) (ends : Bool) (h : w.heap[g]? = some (connObj i o skip ends)) :
    Calls Tryz.prog 18 #[.pointer (some ⟨g, 0, none⟩)] w fun e w' =>
      e = .returned (.tuple #[]) ∧ w'.heap[g]? = some (connObj ⟨#[]⟩ o skip true) ∧ Only (· = g) w w' := by
  have c0 := blk_cell h 0
  simp at c0
  have c3 := blk_cell h 3
  simp at c3
  have f0 := blk_free h 0
  have f3 := blk_free h 3
  have H := Lib.hid h; clear h
  go_enter Tryz.func18, Tryz.ntmps18
  go_wp2
  go_end0
  exact ⟨rfl, by rw [blk_set (blk_set H.out _ _)]; simp [connObj], ((Only.refl (· = g) w).setCell (.inr rfl) _).setCell (.inr rfl) _⟩

set_option maxHeartbeats 400000 in
theorem conn_ends (w : World) (g : Nat) (i o : ByteArray) (skip : Int) (ends : Bool) (h : w.heap[g]? = some (connObj i o skip ends)) :
    Calls Tryz.prog 21 #[.pointer (some ⟨g, 0, none⟩)] w fun e w' =>
      e = .returned (.bool ends) ∧ w = w' := by
  have c3 := blk_cell h 3
  simp at c3
  have H := Lib.hid h; clear h
  go_enter Tryz.func21, Tryz.ntmps21
  go_wp2
  go_ret
  exact ⟨rfl, rfl⟩

set_option maxHeartbeats 400000 in
theorem conn_sizes (w : World) (g : Nat) (i o : ByteArray) (skip : Int) (ends : Bool) (h : w.heap[g]? = some (connObj i o skip ends)) :
    Calls Tryz.prog 20 #[.pointer (some ⟨g, 0, none⟩)] w fun e w' =>
      e = .returned (.tuple #[.int .i64 i.size, .int .i64 o.size]) ∧ ∃ n, w.drewN n = w' := by
  have c0 := blk_cell h 0
  simp at c0
  have c1 := blk_cell h 1
  simp at c1
  have H := Lib.hid h; clear h
  go_enter Tryz.func20, Tryz.ntmps20
  go_wp2
  go_quiet (fail)
  go_wp2
  go_ret2
  exact ⟨rfl, _, rfl⟩

/-- How many bytes are written of so many. -/
def cutN (n : Int) (s : ByteArray) : Nat := (min (max 0 n) (s.size : Int)).toNat
theorem cutN_le (n : Int) (s : ByteArray) : cutN n s ≤ s.size := by unfold cutN; omega

set_option maxHeartbeats 400000 in
theorem conn_write (w : World) (g : Nat) (i o : ByteArray) (skip : Int) (ends : Bool) (n : Int) (h : w.heap[g]? = some (connObj i o skip ends)) :
    Calls Tryz.prog 16 #[.pointer (some ⟨g, 0, none⟩), .int .i64 n] w fun e w' =>
      e = .returned (.string (o.extract 0 (cutN n o))) ∧ w'.heap[g]? = some (connObj i (o.extract (cutN n o) o.size) skip ends) ∧ Only (· = g) w w' := by
  have c1 := blk_cell h 1
  simp at c1
  have f1 := blk_free h 1
  obtain ⟨m, hm⟩ : ∃ m : Nat, cutN n o = m := ⟨_, rfl⟩
  have hm' : min (max 0 n) (o.size : Int) = (m : Int) := by unfold cutN at hm; omega
  have hle : m ≤ o.size := by omega
  rw [hm]
  have HM := Lib.hid hm; clear hm
  have H := Lib.hid h; clear h
  go_enter Tryz.func16, Tryz.ntmps16
  go_wp2
  go_ret
  exact ⟨rfl, by rw [blk_set H.out]; simp [connObj], (Only.refl (· = g) w).setCell (.inr rfl) _⟩

/-- What Feed does: how much is passed, how much is put. -/
def feedP (skip : Int) (b : ByteArray) : Nat := (min skip (b.size : Int)).toNat
def feedN (i : ByteArray) (skip : Int) (b : ByteArray) : Nat := (min ((b.size : Int) - feedP skip b) (70000 - (i.size : Int))).toNat

theorem conn_feed_end (w : World) (g : Nat) (i o : ByteArray) (skip : Int) (b : ByteArray) (h : w.heap[g]? = some (connObj i o skip true)) :
    Calls Tryz.prog 10 #[.pointer (some ⟨g, 0, none⟩), .string b] w fun e w' => e = .returned (.int .i64 0) ∧ w = w' := by
  have c3 := blk_cell h 3
  simp at c3
  clear h
  go_enter Tryz.func10, Tryz.ntmps10
  go_wp2
  go_ret
  exact ⟨rfl, rfl⟩

set_option maxHeartbeats 400000 in
theorem conn_feed (w : World) (g : Nat) (i o : ByteArray) (skip : Int) (b : ByteArray) (h : w.heap[g]? = some (connObj i o skip false)) (hk : 0 ≤ skip) (hk2 : skip ≤ 9223372036854775807) (hi : i.size ≤ 70000) (hb : b.size ≤ 9223372036854700000) :
    Calls Tryz.prog 10 #[.pointer (some ⟨g, 0, none⟩), .string b] w fun e w' =>
      e = .returned (.int .i64 (feedP skip b + feedN i skip b : Nat)) ∧
      w'.heap[g]? = some (connObj (i ++ (b.extract (feedP skip b) b.size).extract 0 (feedN i skip b)) o (skip - feedP skip b) false) ∧ Only (· = g) w w' := by
  have c0 := blk_cell h 0
  have c2 := blk_cell h 2
  have c3 := blk_cell h 3
  have f0 := blk_free h 0
  have f2 := blk_free h 2
  simp at c0 c2 c3
  obtain ⟨p, hp⟩ : ∃ p : Nat, feedP skip b = p := ⟨_, rfl⟩
  obtain ⟨q, hq⟩ : ∃ q : Nat, feedN i skip b = q := ⟨_, rfl⟩
  rw [hp, hq]
  have hp' : min skip (b.size : Int) = (p : Int) := by unfold feedP at hp; omega
  have hple : p ≤ b.size := by omega
  have hq' : min ((b.size - p : Nat) : Int) (70000 - (i.size : Int)) = (q : Int) := by unfold feedN at hq; rw [hp] at hq; omega
  have hqle : q ≤ b.size - p := by omega
  have hs : p ≤ skip := by omega
  have H := Lib.hid h; clear h
  have HP := Lib.hid hp; clear hp
  have HQ := Lib.hid hq; clear hq
  go_enter Tryz.func10, Tryz.ntmps10
  go_wp2
  go_region
  go_wp2
  go_ret
  exact ⟨rfl, (blk_drew (blk_set (blk_set H.out _ _) _ _)).trans (by simp [connObj]), (((Only.refl (· = g) w).setCell (.inr rfl) _).setCell (.inr rfl) _).drew⟩

theorem conn_new (w : World) : Calls Tryz.prog 9 #[] w fun e w' =>
    e = .returned (.pointer (some ⟨w.heap.size, 0, none⟩)) ∧ w'.heap[w.heap.size]? = some (connObj ⟨#[]⟩ ⟨#[]⟩ 0 false) ∧ Kept w w' ∧ w'.heap.size = w.heap.size + 1 := by
  go_enter Tryz.func9, Tryz.ntmps9
  go_wp2
  go_ret
  exact ⟨rfl, blk_new _ _, (Only.refl _ _).alloc _, by simp⟩
end Go.Proofs.YtnlabbclmngphaaGreatDoor
