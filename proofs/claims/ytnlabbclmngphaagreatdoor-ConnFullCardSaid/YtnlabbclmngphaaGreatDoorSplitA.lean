/- What words.words and words.Split do: a line's words, in new memory. Conditions: the line's length fits. -/
import Derived.Test.YtnlabbclmngphaaGreatDoorWordsA
import Derived.Test.YtnlabbclmngphaaGreatDoorRangeA
import Derived.RangeFuncNested
import Derived.RangeFuncBound
import Derived.RangeFuncCalls
import Derived.Shelf.RegionOpen
import Derived.OwnWalkIn
import Derived.TacticsInMore
import Derived.LoopNIn
import Derived.LoopIn
namespace Go.Proofs.YtnlabbclmngphaaGreatDoor
open Go.RowKit
attribute [local go_sem] Oper.semAt_some

/-- How long the text in a block's first cell is. -/
def strLen (w : World) (g : Nat) : Nat := match w.cell? ⟨g, 0, none⟩ with | some (.string s) => s.size | _ => 0
theorem strLen_eq {w : World} {g : Nat} {s : ByteArray} (h : w.cell? ⟨g, 0, none⟩ = some (.string s)) : strLen w g = s.size := by simp [strLen, h]

theorem skipB_trim (l : List UInt8) : Lib.trimLeftB l 32 = skipB l := rfl

set_option maxHeartbeats 1000000 in
theorem words_iter (B : Nat) (line : List UInt8) (W0 : World) (hlen : line.length ≤ 9223372036854775800)
    (hB : W0.heap[B]? = some (.cells #[.string (bs line)] 9 (0, 0))) :
    SeqAll Tryz.prog 86 #[.pointer (some ⟨B, 0, none⟩)] (fun x : List UInt8 => #[.string (bs x)]) (· = B) (· = B) (wordsOf line) W0 := by
  intro l J W hW hJT hY h0
  have hBW := blk_only hB hW (fun h => h)
  refine (callsIn_wide (n := 1)).1 ?_
  refine callsIn_of_wp Tryz.func86 rfl trivial ?_ rfl
  simp only [Tryz.ntmps86, List.size_toArray, List.length_cons, List.length_nil, Nat.reduceAdd, Nat.reduceSub, Array.replicate_succ, Array.replicate_zero, List.push_toArray, List.append_toArray, List.nil_append, List.cons_append]
  gi_wp2
  gi_loopw [] (fun wr => ∃ (i : Nat) (rest : List UInt8), wr.heap[B]? = some (.cells #[.string (bs rest)] 9 (0, 0)) ∧ Hid (wordsOf rest = (wordsOf line).drop i) ∧ rest.length ≤ line.length ∧ J i wr ∧ Hid (i ≤ (wordsOf line).length))
    (fun wr => strLen wr B)
  case atStart => exact ⟨0, line, hBW, by simp [Hid], Nat.le_refl _, h0, Nat.zero_le _⟩
  case round =>
    obtain ⟨i, rest, hb, hw, hle, hJ, hJi⟩ := hrel
    have c0 := blk_cell hb 0
    have f0 := blk_free hb 0
    simp at c0
    have Hb := Lib.hid hb; clear hb
    have hlen' : (skipB rest).length ≤ 9223372036854775806 := by have := skipB_le rest; omega
    by_cases hs : skipB rest = []
    · obtain ⟨hE, hE'⟩ := empty_yes (s := bs (skipB rest)) (by simp [hs])
      have HS := Lib.hid hs; clear hs
      gi_wp2_with (refine ⟨trivial, ?_⟩; gi_at_call 27; refine (callsIn_wide.2 (trimLeft_blank rest _)).mono ?_; rintro e w' ⟨rfl, rfl⟩)
      refine bodyPost_ret (results_none rfl _ _ _) rfl ?_
      have hi : i = (wordsOf line).length ∨ (wordsOf line).length ≤ i := by
        right
        have h1 := hw.out
        rw [wordsOf_nil HS.out] at h1
        exact List.drop_eq_nil_iff.1 h1.symm
      have hi' := hJi.out
      obtain rfl : i = (wordsOf line).length := by omega
      exact ⟨⟨_, rfl⟩, hJT _ _ _ hJ ((Only.refl (· = B) wr).setCell (.inr rfl) _)⟩
    · obtain ⟨hE, hE'⟩ := empty_no (s := bs (skipB rest)) (by simpa using hs)
      have HS := Lib.hid hs; clear hs
      gi_wp2_with (refine ⟨trivial, ?_⟩; gi_at_call 27; refine (callsIn_wide.2 (trimLeft_blank rest _)).mono ?_; rintro e w' ⟨rfl, rfl⟩)
      refine ⟨trivial, ?_⟩
      refine (callsIn_wide.2 (cut_any (skipB rest) 32 _ hlen')).mono ?_
      rintro e w' ⟨rfl, n, rfl⟩
      gi_wp2_with fail
      have hx := hw.out
      rw [wordsOf_cons HS.out] at hx
      have hi : i < (wordsOf line).length := by
        by_cases h : i < (wordsOf line).length
        · exact h
        · rw [List.drop_eq_nil_iff.2 (by omega)] at hx; cases hx
      rw [List.drop_eq_getElem_cons hi] at hx
      obtain ⟨hx1, hx2⟩ := List.cons.inj hx
      obtain ⟨W3, hW3⟩ : ∃ W3, (((wr.setCell ⟨B, 0, none⟩ (.string (bs (skipB rest)))).drewN n).setCell ⟨B, 0, none⟩ (.string (bs (behind 32 (skipB rest))))) = W3 := ⟨_, rfl⟩
      have hO : Only (· = B) wr W3 := by rw [← hW3]; exact (((Only.refl (· = B) wr).setCell (.inr rfl) _).drewN n).setCell (.inr rfl) _
      have hB3 : W3.heap[B]? = some (.cells #[.string (bs (behind 32 (skipB rest)))] 9 (0, 0)) := by
        rw [← hW3]; exact (blk_set (blk_drewN (blk_set Hb.out 0 _) n) 0 _).trans (by simp)
      obtain ⟨fn, tmps, assign, body, hy, hR⟩ := hY i hi W3 0 (hJT _ _ _ hJ hO)
      rw [← hx1] at hy
      rw [hW3]
      clear hW3 hx hx1 hJ hY hJT hW hBW h0 hB
      rw [hy]
      gi_wp2
      refine hR.mono ?_
      rintro e W4 ⟨rfl, hJ4, hsz, hK⟩
      have hB4 := Lib.hid ((hK B rfl).trans hB3)
      clear hK hB3 hO c0 f0 hR hy hsz
      gi_wp2
      go_roundw
      case rel => exact ⟨i + 1, behind 32 (skipB rest), hB4.out, hx2, Nat.le_trans (behind_le 32 _) (Nat.le_trans (skipB_le rest) hle), hJ4, hi⟩
      case measure =>
        have h1 := blk_cell hB4.out 0
        have h2 := blk_cell Hb.out 0
        simp at h1 h2
        rw [strLen_eq h1, strLen_eq h2, size_bs, size_bs]
        have h3 := behind_lt 32 _ HS.out
        have h4 := skipB_le rest
        omega
end Go.Proofs.YtnlabbclmngphaaGreatDoor
