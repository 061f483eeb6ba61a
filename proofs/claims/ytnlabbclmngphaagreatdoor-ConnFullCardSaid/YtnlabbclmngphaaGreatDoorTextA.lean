/- What the small calls of package text do: need, bad, count, key, seconds, off. Conditions: texts shorter than 2^32 bytes, the library's range error where it was laid. -/
import Derived.Test.YtnlabbclmngphaaGreatDoorPlainB
import Derived.OwnWalk
namespace Go.Proofs.YtnlabbclmngphaaGreatDoor
open Go.RowKit
set_option linter.unusedSimpArgs false
set_option linter.unusedVariables false

theorem Kept.rules {w w' : World} (k : Kept w w') : (∀ b o, b < w.heap.size → w'.cell? ⟨b, o, none⟩ = w.cell? ⟨b, o, none⟩) ∧ (∀ b o, b < w.heap.size → w'.frozen? ⟨b, o, none⟩ = w.frozen? ⟨b, o, none⟩) :=
  ⟨fun b o h => World.cell?_of_block (w := w) (k.block b h id), fun b o h => World.frozen?_of_block (w := w) (k.block b h id)⟩

/-- A slice of texts that reads as xs. -/
def Strs (w : World) (v : Value) (xs : List (List UInt8)) : Prop :=
  ∃ a cap, v = .slice a xs.length cap ∧ xs.length ≤ cap ∧ cap ≤ maxLen ∧ (xs = [] ∨ ∃ g off, a = some ⟨g, off, none⟩ ∧ ∀ j x, xs[j]? = some x → w.cell? ⟨g, off + j, none⟩ = some (.string (bs x)))
/-- The block of a slice is not one of S. -/
def Value.off (v : Value) (S : Nat → Prop) : Prop := ∀ k, v.ownBlock = some k → ¬ S k
theorem Strs.only {S : Nat → Prop} {w w' : World} {v : Value} {xs : List (List UInt8)} (h : Strs w v xs) (k : Only S w w') (hS : Value.off v S) : Strs w' v xs := by
  obtain ⟨a, cap, rfl, h1, h2, h3⟩ := h
  refine ⟨a, cap, rfl, h1, h2, ?_⟩
  rcases h3 with h3 | ⟨g, off, rfl, h3⟩
  · exact .inl h3
  · refine .inr ⟨g, off, rfl, fun j x hj => ?_⟩
    have := h3 j x hj
    rw [World.cell?_of_block (w := w) (k.block g (World.block_lt_of_cell? w _ this) (hS g rfl))]; exact this
/-- A line's block, and its words. -/
def IsLine (w : World) (g : Nat) (l : Line) : Prop :=
  ∃ v, w.heap[g]? = some (.cells #[.string (bs l.name), v, .string (bs l.behind), .int .i64 l.used, .bool l.quiet] 82 (0, 0)) ∧ Strs w v l.w ∧ Value.off v (· = g)
theorem IsLine.kept {w w' : World} {g : Nat} {l : Line} (h : IsLine w g l) (k : Kept w w') : IsLine w' g l := by
  obtain ⟨v, h1, h2, h3⟩ := h
  exact ⟨v, blk_only h1 k id, h2.only k (fun _ _ h => h), h3⟩

/-- A fault, given up. -/
abbrev faultEnd (f : List UInt8) : Ending := .panicked [{ v := .iface 103 (.string (bs f)), recovered := false }]

theorem need_yes (f : List UInt8) (w : World) : Calls Tryz.prog 98 #[.bool true, .string (bs f)] w fun e w' => e = .returned (.tuple #[]) ∧ w = w' := by
  go_enter Tryz.func98, Tryz.ntmps98
  go_wp2
  go_end0
  exact ⟨rfl, rfl⟩
theorem need_no (f : List UInt8) (w : World) : Calls Tryz.prog 98 #[.bool false, .string (bs f)] w fun e w' => e = faultEnd f ∧ w = w' := by
  go_enter Tryz.func98, Tryz.ntmps98
  go_wp2
  exact ⟨rfl, rfl, rfl⟩

set_option maxHeartbeats 400000 in
theorem count_yes (w : World) (g : Nat) (l : Line) (lo hi : Int) (h : IsLine w g l) (hc : l.counts lo hi = true) :
    Calls Tryz.prog 96 #[.pointer (some ⟨g, 0, none⟩), .int .i64 lo, .int .i64 hi] w fun e w' => e = .returned (.tuple #[]) ∧ w = w' := by
  obtain ⟨v, hb, ⟨a, cap, rfl, h1, h2, h3⟩, hv⟩ := h
  have c1 := blk_cell hb 1
  simp at c1
  clear hb h3 hv
  simp only [Line.counts, Bool.and_eq_true, decide_eq_true_eq] at hc
  obtain ⟨hlo, hhi⟩ := hc
  go_enter Tryz.func96, Tryz.ntmps96
  go_wp2_with (go_at_call 98; refine (need_yes eError _).mono ?_; rintro e w' ⟨rfl, rfl⟩)
  go_end0
  exact ⟨rfl, rfl⟩
set_option maxHeartbeats 400000 in
theorem count_no (w : World) (g : Nat) (l : Line) (lo hi : Int) (h : IsLine w g l) (hc : l.counts lo hi = false) :
    Calls Tryz.prog 96 #[.pointer (some ⟨g, 0, none⟩), .int .i64 lo, .int .i64 hi] w fun e w' => e = faultEnd eError ∧ w = w' := by
  obtain ⟨v, hb, ⟨a, cap, rfl, h1, h2, h3⟩, hv⟩ := h
  have c1 := blk_cell hb 1
  simp at c1
  clear hb h3 hv
  by_cases hlo : lo ≤ (l.w.length : Int)
  · have hhi : ¬ (l.w.length : Int) ≤ hi := by simpa [Line.counts, hlo] using hc
    clear hc
    go_enter Tryz.func96, Tryz.ntmps96
    go_wp2_with (go_at_call 98; refine (need_no eError _).mono ?_; rintro e w' ⟨rfl, rfl⟩)
    exact ⟨rfl, rfl, rfl⟩
  · clear hc
    go_enter Tryz.func96, Tryz.ntmps96
    go_wp2_with (go_at_call 98; refine (need_no eError _).mono ?_; rintro e w' ⟨rfl, rfl⟩)
    exact ⟨rfl, rfl, rfl⟩

/-- What a line's words tell of one that is there. -/
theorem IsLine.word {w : World} {g : Nat} {l : Line} (h : IsLine w g l) {i : Nat} (hi : i < l.w.length) :
    ∃ b off cap, w.cell? ⟨g, 1, none⟩ = some (.slice (some ⟨b, off, none⟩) l.w.length cap) ∧ w.cell? ⟨b, off + i, none⟩ = some (.string (bs (l.at i))) ∧ l.w.length ≤ 9223372036854775807 ∧ l.w.length ≤ cap ∧ b ≠ g := by
  obtain ⟨v, hb, ⟨a, cap, rfl, h1, h2, h3⟩, hv⟩ := h
  have c1 := blk_cell hb 1
  simp at c1
  rcases h3 with h3 | ⟨b, off, rfl, h3⟩
  · rw [h3] at hi; simp at hi
  · refine ⟨b, off, cap, c1, ?_, by unfold maxLen at h2; omega, h1, hv b rfl⟩
    rw [h3 i _ (List.getElem?_eq_getElem hi)]
    simp [Line.at, hi]
theorem Line.at_len {l : Line} {i : Nat} (hl : ∀ x ∈ l.w, x.length < 4294967281) : (l.at i).length < 4294967281 := by
  unfold Line.at
  by_cases h : i < l.w.length
  · rw [List.getD_eq_getElem?_getD, List.getElem?_eq_getElem h]; exact hl _ (List.getElem_mem h)
  · rw [List.getD_eq_getElem?_getD, List.getElem?_eq_none (by omega)]; simp

set_option maxHeartbeats 400000 in
theorem lkey_yes (w : World) (g : Nat) (l : Line) (i : Nat) (h : IsLine w g l) (hi : i < l.w.length) (hl : ∀ x ∈ l.w, x.length < 4294967281) (hk : isKey (l.at i) = true) :
    Calls Tryz.prog 105 #[.pointer (some ⟨g, 0, none⟩), .int .i64 i] w fun e w' => e = .returned (.string (bs (l.at i))) ∧ w = w' := by
  obtain ⟨b, off, cap, c1, c2, h63, hcap, hbg⟩ := h.word hi
  have hlen := Line.at_len (i := i) hl
  clear h hl
  go_enter Tryz.func105, Tryz.ntmps105
  go_wp2_with (first | (go_at_call 64; refine (key_any (bs (l.at i)) _ (by rw [size_bs]; omega)).mono ?_; rintro e w' ⟨rfl, rfl⟩; rw [tl_bs, hk]) | (go_at_call 98; refine (need_yes eFormat _).mono ?_; rintro e w' ⟨rfl, rfl⟩))
  go_ret
  exact ⟨rfl, rfl⟩
set_option maxHeartbeats 400000 in
theorem lkey_no (w : World) (g : Nat) (l : Line) (i : Nat) (h : IsLine w g l) (hi : i < l.w.length) (hl : ∀ x ∈ l.w, x.length < 4294967281) (hk : isKey (l.at i) = false) :
    Calls Tryz.prog 105 #[.pointer (some ⟨g, 0, none⟩), .int .i64 i] w fun e w' => e = faultEnd eFormat ∧ w = w' := by
  obtain ⟨b, off, cap, c1, c2, h63, hcap, hbg⟩ := h.word hi
  have hlen := Line.at_len (i := i) hl
  clear h hl
  go_enter Tryz.func105, Tryz.ntmps105
  go_wp2_with (first | (go_at_call 64; refine (key_any (bs (l.at i)) _ (by rw [size_bs]; omega)).mono ?_; rintro e w' ⟨rfl, rfl⟩; rw [tl_bs, hk]) | (go_at_call 98; refine (need_no eFormat _).mono ?_; rintro e w' ⟨rfl, rfl⟩))
  exact ⟨rfl, rfl, rfl⟩
set_option maxHeartbeats 400000 in
theorem lseconds_yes (w : World) (g : Nat) (l : Line) (i : Nat) (h : IsLine w g l) (hi : i < l.w.length) (hl : ∀ x ∈ l.w, x.length < 4294967281) (hg : Gl w) (hk : (psec (l.at i)).2 = true) :
    Calls Tryz.prog 97 #[.pointer (some ⟨g, 0, none⟩), .int .i64 i] w fun e w' => e = .returned (.int .i64 (psec (l.at i)).1) ∧ Kept w w' := by
  obtain ⟨b, off, cap, c1, c2, h63, hcap, hbg⟩ := h.word hi
  have hlen := Line.at_len (i := i) hl
  clear h hl
  have HG := Lib.hid hg; clear hg
  go_enter Tryz.func97, Tryz.ntmps97
  go_wp2_with fail
  refine (tseconds_calls (l.at i) _ hlen HG.out).mono ?_
  rintro e w' ⟨rfl, hkp⟩
  rw [hk]
  go_wp2_with (go_at_call 98; refine (need_yes eExptime _).mono ?_; rintro e w' ⟨rfl, rfl⟩)
  go_ret
  exact ⟨rfl, hkp⟩
set_option maxHeartbeats 400000 in
theorem lseconds_no (w : World) (g : Nat) (l : Line) (i : Nat) (h : IsLine w g l) (hi : i < l.w.length) (hl : ∀ x ∈ l.w, x.length < 4294967281) (hg : Gl w) (hk : (psec (l.at i)).2 = false) :
    Calls Tryz.prog 97 #[.pointer (some ⟨g, 0, none⟩), .int .i64 i] w fun e w' => e = faultEnd eExptime ∧ Kept w w' := by
  obtain ⟨b, off, cap, c1, c2, h63, hcap, hbg⟩ := h.word hi
  have hlen := Line.at_len (i := i) hl
  clear h hl
  have HG := Lib.hid hg; clear hg
  go_enter Tryz.func97, Tryz.ntmps97
  go_wp2_with fail
  refine (tseconds_calls (l.at i) _ hlen HG.out).mono ?_
  rintro e w' ⟨rfl, hkp⟩
  rw [hk]
  go_wp2_with (go_at_call 98; refine (need_no eExptime _).mono ?_; rintro e w' ⟨rfl, rfl⟩)
  exact ⟨rfl, rfl, hkp⟩
end Go.Proofs.YtnlabbclmngphaaGreatDoor
