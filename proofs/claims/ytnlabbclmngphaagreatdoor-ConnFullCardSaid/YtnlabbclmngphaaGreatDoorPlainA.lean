/- Plain words on bytes: where a byte first stands, what stands ahead of it and behind it, a line's words. No condition. -/
import Derived.Lib.Bytealg
import Derived.Lib.Strings
import Derived.Lib.IndexBytes
namespace Go.Proofs.YtnlabbclmngphaaGreatDoor

/-- A text's bytes as a list, and back. -/
def tl (s : ByteArray) : List UInt8 := s.data.toList
def bs (l : List UInt8) : ByteArray := ⟨l.toArray⟩
@[simp] theorem tl_bs (l : List UInt8) : tl (bs l) = l := rfl
@[simp] theorem bs_tl (s : ByteArray) : bs (tl s) = s := rfl
@[simp] theorem size_bs (l : List UInt8) : (bs l).size = l.length := rfl
theorem tl_length (s : ByteArray) : (tl s).length = s.size := rfl
@[simp] theorem bs_inj {a b : List UInt8} : bs a = bs b ↔ a = b := ⟨fun h => by rw [← tl_bs a, h, tl_bs], fun h => by rw [h]⟩
theorem tl_inj {a b : ByteArray} (h : tl a = tl b) : a = b := by rw [← bs_tl a, h, bs_tl]

theorem extract_bs (s : ByteArray) (a b : Nat) : s.extract a b = bs (((tl s).drop a).take (b - a)) := by
  apply tl_inj; rw [tl_bs]; exact Lib.extract_data s a b
theorem extract_take (s : ByteArray) (k : Nat) : s.extract 0 k = bs ((tl s).take k) := by rw [extract_bs]; simp
theorem extract_drop (s : ByteArray) (k : Nat) : s.extract k s.size = bs ((tl s).drop k) := by
  rw [extract_bs, List.take_of_length_le (by rw [List.length_drop, tl_length]; omega)]

theorem toList_tl (s : ByteArray) : s.toList = tl s := Lib.toList_data s
/-- The two spellings of '== ""' that a walk shows. -/
theorem empty_yes {s : ByteArray} (h : s.size = 0) : s.toList = [] ∧ s.toList.isEmpty = true := by
  have : tl s = [] := List.length_eq_zero_iff.1 (by rw [tl_length]; exact h)
  rw [toList_tl, this]; exact ⟨rfl, rfl⟩
theorem empty_no {s : ByteArray} (h : s.size ≠ 0) : (s.toList = []) = False ∧ s.toList.isEmpty = false := by
  have : tl s ≠ [] := fun e => h (by rw [← tl_length, e]; rfl)
  rw [toList_tl]
  exact ⟨eq_false this, by simpa using this⟩

/-- '==' of texts, as a walk spells it. -/
theorem eqs_no {a b : List UInt8} (h : a ≠ b) : ((bs a).toList == b) = false := by rw [toList_tl, tl_bs]; simpa using h
theorem eqs_yes {a b : List UInt8} (h : a = b) : ((bs a).toList == b) = true := by rw [toList_tl, tl_bs]; simpa using h

/-- What stands ahead of the first c; what stands behind it. -/
def ahead (c : UInt8) (l : List UInt8) : List UInt8 := l.takeWhile (· != c)
def behind (c : UInt8) (l : List UInt8) : List UInt8 := (l.dropWhile (· != c)).tail

theorem indexByte_eq (c : UInt8) : ∀ l : List UInt8, Lib.indexByte l c = if l.contains c then ((ahead c l).length : Int) else -1
  | [] => rfl
  | b :: l => by
    have ih := indexByte_eq c l
    unfold Lib.indexByte
    by_cases h : b = c
    · subst h; simp [ahead]
    · have h' : ¬ c = b := fun e => h e.symm
      rw [ih]
      by_cases hc : c ∈ l
      · simp [h, h', hc, ahead]
      · simp [h, h', hc]
theorem take_ahead (c : UInt8) : ∀ l : List UInt8, l.take (ahead c l).length = ahead c l
  | [] => rfl
  | b :: l => by
    have ih := take_ahead c l
    unfold ahead at *
    by_cases h : b = c
    · simp [h]
    · simp [h, ih]
theorem drop_ahead (c : UInt8) : ∀ l : List UInt8, l.drop ((ahead c l).length + 1) = behind c l
  | [] => by simp [behind]
  | b :: l => by
    have ih := drop_ahead c l
    unfold ahead behind at *
    by_cases h : b = c
    · simp [h]
    · simp [h, ih]
theorem ahead_le (c : UInt8) (l : List UInt8) : (ahead c l).length ≤ l.length := by
  rw [← take_ahead c l]; simp; omega
theorem ahead_lt (c : UInt8) : ∀ l : List UInt8, c ∈ l → (ahead c l).length + 1 + (behind c l).length = l.length
  | [], h => by simp at h
  | b :: l, h => by
    by_cases e : b = c
    · subst e; simp [ahead, behind]; omega
    · have hl : c ∈ l := by
        rcases List.mem_cons.1 h with h | h
        · exact absurd h.symm e
        · exact h
      have ih := ahead_lt c l hl
      have e1 : ahead c (b :: l) = b :: ahead c l := by simp [ahead, e]
      have e2 : behind c (b :: l) = behind c l := by simp [behind, e]
      rw [e1, e2, List.length_cons, List.length_cons]; omega
theorem ahead_all (c : UInt8) : ∀ l : List UInt8, c ∉ l → ahead c l = l
  | [], _ => rfl
  | b :: l, h => by
    have h1 : b ≠ c := fun e => h (by simp [e])
    have h2 : c ∉ l := fun e => h (by simp [e])
    have ih := ahead_all c l h2
    unfold ahead at *
    simp [h1, ih]
theorem behind_all (c : UInt8) : ∀ l : List UInt8, c ∉ l → behind c l = []
  | [], _ => rfl
  | b :: l, h => by
    have h1 : b ≠ c := fun e => h (by simp [e])
    have h2 : c ∉ l := fun e => h (by simp [e])
    have ih := behind_all c l h2
    unfold behind at *
    simp [h1, ih]
theorem behind_le (c : UInt8) (l : List UInt8) : (behind c l).length ≤ l.length := by
  rw [← drop_ahead c l]; simp

/-- Blanks taken off the head. -/
def skipB (l : List UInt8) : List UInt8 := l.dropWhile (· == 32)
theorem skipB_le (l : List UInt8) : (skipB l).length ≤ l.length := by
  unfold skipB
  have h : ∀ l : List UInt8, (l.dropWhile (· == 32)).length ≤ l.length := by
    intro l
    induction l with
    | nil => simp
    | cons b l ih =>
      simp only [List.dropWhile_cons]
      split
      · simp; omega
      · simp
  exact h l

/-- A line's words: by so many rounds; all. -/
def wordsF : Nat → List UInt8 → List (List UInt8)
  | 0, _ => []
  | n + 1, l => if skipB l = [] then [] else ahead 32 (skipB l) :: wordsF n (behind 32 (skipB l))
def wordsOf (l : List UInt8) : List (List UInt8) := wordsF l.length l
theorem behind_lt (c : UInt8) (l : List UInt8) (h : l ≠ []) : (behind c l).length < l.length := by
  by_cases hc : c ∈ l
  · have := ahead_lt c l hc; omega
  · rw [behind_all c l hc]; exact List.length_pos_iff.2 h
theorem wordsF_enough : ∀ (n m : Nat) (l : List UInt8), l.length ≤ n → l.length ≤ m → wordsF n l = wordsF m l
  | 0, 0, _, _, _ => rfl
  | 0, m + 1, l, h, _ => by
    obtain rfl : l = [] := List.length_eq_zero_iff.1 (by omega)
    simp [wordsF, skipB]
  | n + 1, 0, l, _, h => by
    obtain rfl : l = [] := List.length_eq_zero_iff.1 (by omega)
    simp [wordsF, skipB]
  | n + 1, m + 1, l, hn, hm => by
    unfold wordsF
    by_cases h : skipB l = []
    · rw [if_pos h, if_pos h]
    · have h1 := behind_lt 32 _ h
      have h2 := skipB_le l
      rw [if_neg h, if_neg h, wordsF_enough n m _ (by omega) (by omega)]
theorem wordsOf_nil {l : List UInt8} (h : skipB l = []) : wordsOf l = [] := by
  unfold wordsOf
  cases hn : l.length with
  | zero => rfl
  | succ n => simp [wordsF, h]
theorem wordsOf_cons {l : List UInt8} (h : skipB l ≠ []) : wordsOf l = ahead 32 (skipB l) :: wordsOf (behind 32 (skipB l)) := by
  have h1 := behind_lt 32 _ h
  have h2 := skipB_le l
  unfold wordsOf
  cases hn : l.length with
  | zero => omega
  | succ n =>
    rw [show wordsF (n + 1) l = _ from by unfold wordsF; rw [if_neg h]]
    rw [wordsF_enough n _ _ (by omega) (Nat.le_refl _)]
end Go.Proofs.YtnlabbclmngphaaGreatDoor
