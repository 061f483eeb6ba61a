/- What words.Line, words.Key and the cut at one byte do. Conditions: the texts' lengths fit. -/
import Derived.Test.YtnlabbclmngphaaGreatDoorProg
import Derived.Test.YtnlabbclmngphaaGreatDoorShelf
import Derived.Test.YtnlabbclmngphaaGreatDoorHeapA
import Derived.Test.YtnlabbclmngphaaGreatDoorPlainA
import Derived.WalkKit
import Derived.WalkLawsBesides
import Derived.WalkSpells
import Derived.Deep.QuietTactic
import Derived.BigQuiet
namespace Go.Proofs.YtnlabbclmngphaaGreatDoor
open Go.RowKit

/-- A cut at one byte, of what has it, and of what has it not. -/
theorem lite_cut_yes (s : ByteArray) (c : UInt8) (w : World) (hs : s.size ≤ 9223372036854775806) (hc : c ∈ tl s) :
    Calls Tryz.prog 36 #[.string s, .string ⟨#[c]⟩] w fun e w' =>
      e = .returned (.tuple #[.string (bs (ahead c (tl s))), .string (bs (behind c (tl s))), .bool true]) ∧ ∃ n, w.drewN n = w' := by
  obtain ⟨k, hk⟩ : ∃ k : Nat, (ahead c (tl s)).length = k := ⟨_, rfl⟩
  have hi : Lib.indexByte s.data.toList c = (k : Int) := by rw [indexByte_eq]; rw [← hk]; exact if_pos (by simpa [tl] using hc)
  have hk1 : k + 1 ≤ s.size := by have := ahead_lt c (tl s) hc; rw [tl_length] at this; omega
  have e1 : s.extract 0 k = bs (ahead c (tl s)) := by rw [extract_take, ← hk, take_ahead]
  have e2 : s.extract (k + 1) s.size = bs (behind c (tl s)) := by rw [extract_drop, ← hk, drop_ahead]
  have E1 := Lib.hid e1
  have E2 := Lib.hid e2
  have HI := Lib.hid hi
  clear e1 e2 hi hk
  go_enter Tryz.func36, Tryz.ntmps36
  go_wp2_with (go_at_call 55; refine (Tryz.stringslite_Index_one s c _).mono ?_; rintro e w' ⟨rfl, rfl⟩; rw [HI.out])
  go_quiet (fail)
  go_wp2
  go_ret3
  exact ⟨by rw [← E1.out, ← E2.out]; rfl, _, rfl⟩

theorem lite_cut_no (s : ByteArray) (c : UInt8) (w : World) (hc : c ∉ tl s) :
    Calls Tryz.prog 36 #[.string s, .string ⟨#[c]⟩] w fun e w' =>
      e = .returned (.tuple #[.string s, .string ⟨#[]⟩, .bool false]) ∧ w = w' := by
  have hi : Lib.indexByte s.data.toList c = -1 := by rw [indexByte_eq]; exact if_neg (by simpa [tl] using hc)
  have HI := Lib.hid hi
  clear hi
  go_enter Tryz.func36, Tryz.ntmps36
  go_wp2_with (go_at_call 55; refine (Tryz.stringslite_Index_one s c _).mono ?_; rintro e w' ⟨rfl, rfl⟩; rw [HI.out])
  go_ret3
  exact ⟨rfl, rfl⟩

theorem cut_yes (s : ByteArray) (c : UInt8) (w : World) (hs : s.size ≤ 9223372036854775806) (hc : c ∈ tl s) :
    Calls Tryz.prog 26 #[.string s, .string ⟨#[c]⟩] w fun e w' =>
      e = .returned (.tuple #[.string (bs (ahead c (tl s))), .string (bs (behind c (tl s))), .bool true]) ∧ ∃ n, w.drewN n = w' := by
  go_enter Tryz.func26, Tryz.ntmps26
  go_wp2_with (go_at_call 36; refine (lite_cut_yes s c _ hs hc).mono ?_; rintro e w' ⟨rfl, n, rfl⟩)
  go_ret3
  exact ⟨rfl, _, rfl⟩
theorem cut_no (s : ByteArray) (c : UInt8) (w : World) (hc : c ∉ tl s) :
    Calls Tryz.prog 26 #[.string s, .string ⟨#[c]⟩] w fun e w' =>
      e = .returned (.tuple #[.string s, .string ⟨#[]⟩, .bool false]) ∧ w = w' := by
  go_enter Tryz.func26, Tryz.ntmps26
  go_wp2_with (go_at_call 36; refine (lite_cut_no s c _ hc).mono ?_; rintro e w' ⟨rfl, rfl⟩)
  go_ret3
  exact ⟨rfl, rfl⟩

/-- A cut at one byte of any text. -/
theorem cut_any (l : List UInt8) (c : UInt8) (w : World) (hs : l.length ≤ 9223372036854775806) :
    Calls Tryz.prog 26 #[.string (bs l), .string ⟨#[c]⟩] w fun e w' =>
      e = .returned (.tuple #[.string (bs (ahead c l)), .string (bs (behind c l)), .bool (decide (c ∈ l))]) ∧ ∃ n, w.drewN n = w' := by
  by_cases h : c ∈ l
  · refine (cut_yes (bs l) c w hs h).mono fun e w' ⟨he, hw⟩ => ⟨?_, hw⟩
    rw [he]; simp [h]
  · refine (cut_no (bs l) c w h).mono fun e w' ⟨he, hw⟩ => ⟨?_, 0, hw⟩
    rw [he, ahead_all c l h, behind_all c l h]; simp [h, bs]
theorem trimLeft_blank (l : List UInt8) (w : World) :
    Calls Tryz.prog 27 #[.string (bs l), .string ⟨#[32]⟩] w fun e w' => e = .returned (.string (bs (skipB l))) ∧ w = w' :=
  (Tryz.strings_TrimLeft_one (bs l) 32 (by decide) w).mono fun _ _ ⟨he, hw⟩ => ⟨he, hw.symm⟩

/-- words.Line: what stands ahead of the line's end, a CR taken off; how long it is with it; nothing, if there is no end. -/
def lineOf (l : List UInt8) : List UInt8 := Lib.trimSuffix (ahead 10 l) [13]
theorem line_yes (s : ByteArray) (w : World) (hs : s.size ≤ 9223372036854775800) (hc : 10 ∈ tl s) :
    Calls Tryz.prog 25 #[.string s] w fun e w' =>
      e = .returned (.tuple #[.string (bs (lineOf (tl s))), .int .i64 ((ahead 10 (tl s)).length + 1 : Nat)]) ∧ ∃ n, w.drewN n = w' := by
  have hl := ahead_lt 10 (tl s) hc
  rw [tl_length] at hl
  have hsz : (ahead 10 (tl s)).length ≤ 9223372036854775806 := by omega
  clear hl
  go_enter Tryz.func25, Tryz.ntmps25
  go_wp2_with (first | (go_at_call 26; refine (cut_yes s 10 _ (by omega) hc).mono ?_; rintro e w' ⟨rfl, n, rfl⟩) | (go_at_call 35; refine (Tryz.strings_TrimSuffix _ _ _ (by rw [size_bs]; omega)).mono ?_; rintro e w' ⟨rfl, rfl⟩))
  go_ret2
  exact ⟨rfl, _, rfl⟩
theorem line_no (s : ByteArray) (w : World) (hc : 10 ∉ tl s) :
    Calls Tryz.prog 25 #[.string s] w fun e w' => e = .returned (.tuple #[.string ⟨#[]⟩, .int .i64 0]) ∧ w = w' := by
  go_enter Tryz.func25, Tryz.ntmps25
  go_wp2_with (go_at_call 26; refine (cut_no s 10 _ hc).mono ?_; rintro e w' ⟨rfl, rfl⟩)
  go_ret2
  exact ⟨rfl, rfl⟩

/-- words.Key: is a text one? -/
def keyB (c : UInt8) : Bool := decide (32 < c.toNat) && decide (c.toNat ≠ 127)
def isKey (l : List UInt8) : Bool := l.all keyB && decide (l ≠ []) && decide (l.length ≤ 250)
theorem tl_get (s : ByteArray) (k : Nat) (h : k < s.size) : (tl s)[k]? = some s[k] := Lib.data_getElem? s k h
theorem isKey_no {s : ByteArray} {k : Nat} (h : k < s.size) (hc : keyB s[k] = false) : isKey (tl s) = false := by
  unfold isKey
  have hm : s[k] ∈ tl s := List.mem_of_getElem? (tl_get s k h)
  have : (tl s).all keyB = false := by
    rw [List.all_eq_false]; exact ⟨_, hm, by simp [hc]⟩
  rw [this]; simp
theorem isKey_all {s : ByteArray} (h : ∀ j (hj : j < s.size), keyB s[j] = true) : isKey (tl s) = (decide (s.size ≠ 0) && decide (s.size ≤ 250)) := by
  unfold isKey
  have : (tl s).all keyB = true := by
    rw [List.all_eq_true]
    intro c hc
    obtain ⟨j, hj⟩ := List.getElem?_of_mem hc
    have hlt : j < s.size := by have := (List.getElem?_eq_some_iff.1 hj).1; rwa [tl_length] at this
    rw [tl_get s j hlt] at hj
    rw [← Option.some.inj hj]; exact h j hlt
  rw [this, tl_length]
  have e : (tl s = []) ↔ s.size = 0 := by rw [← tl_length]; simp
  by_cases h0 : s.size = 0 <;> simp [e, h0]
set_option maxHeartbeats 400000 in
theorem key_any (s : ByteArray) (w : World) (hs : s.size ≤ 9223372036854775800) :
    Calls Tryz.prog 64 #[.string s] w fun e w' => e = .returned (.bool (isKey (tl s))) ∧ w = w' := by
  go_enter Tryz.func64, Tryz.ntmps64
  go_wp2
  go_loop [7] (fun i => ∃ k : Nat, k ≤ s.size ∧ i = .int .i64 k ∧ Hid (∀ j (hj : j < s.size), j < k → keyB s[j] = true)) (fun i => s.size - (intOf i).toNat)
  case atStart => exact ⟨0, Nat.zero_le _, rfl, fun j _ h => by omega⟩
  case round =>
    obtain ⟨k, hk, rfl, hall⟩ := hrel
    by_cases hlt : k < s.size
    · by_cases hc : keyB s[k] = true
      · have h1 : ¬ ((s[k].toNat : Nat) : Int) ≤ 32 := by simp [keyB] at hc; omega
        have h2 : (((s[k].toNat : Nat) : Int) == 127) = false := by simp [keyB] at hc; simp; omega
        have HC := Lib.hid hc; clear hc
        go_wp2
        go_round
        case rel =>
          refine ⟨k + 1, by omega, by go_num, fun j hj hjk => ?_⟩
          by_cases e : j = k
          · subst e; exact HC.out
          · exact hall.out j hj (by omega)
        case measure => simp [intOf]; omega
      · have hc' : keyB s[k] = false := by simpa using hc
        have hres := Lib.hid (isKey_no hlt hc')
        by_cases h1 : ((s[k].toNat : Nat) : Int) ≤ 32
        · clear hc hc'
          go_wp2
          go_ret
          exact ⟨by rw [hres.out]; rfl, rfl⟩
        · have h2 : (((s[k].toNat : Nat) : Int) == 127) = true := by simp [keyB] at hc; simp; omega
          clear hc hc'
          go_wp2
          go_ret
          exact ⟨by rw [hres.out]; rfl, rfl⟩
    · have hres := Lib.hid (isKey_all (s := s) (fun j hj => hall.out j hj (by omega)))
      by_cases h0 : s.size = 0
      · have hres' : isKey (tl s) = false := by rw [hres.out]; simp [h0]
        obtain ⟨hE, hE'⟩ := empty_yes h0
        have HR := Lib.hid hres'
        clear hres hres' h0
        go_wp2
        go_ret
        exact ⟨by rw [HR.out]; simp <;> omega, rfl⟩
      · obtain ⟨hE, hE'⟩ := empty_no h0
        have hres' : isKey (tl s) = decide (s.size ≤ 250) := by rw [hres.out]; simp [h0]
        have HR := Lib.hid hres'
        clear hres hres'
        go_wp2
        go_ret
        exact ⟨by rw [HR.out]; simp <;> omega, rfl⟩
end Go.Proofs.YtnlabbclmngphaaGreatDoor
