/- What text.bad, line.off and line.do do. Conditions: texts shorter than 2^32 bytes. -/
import Derived.Test.YtnlabbclmngphaaGreatDoorTextA
import Derived.Laws.ResultCell
namespace Go.Proofs.YtnlabbclmngphaaGreatDoor
open Go.RowKit
set_option linter.unusedSimpArgs false
set_option linter.unusedVariables false

/-- A command's cells. -/
def cmdCells (c : Cmd) : List Value :=
  [.int .i64 c.op, .int .i64 c.mode, .string (bs c.key), .string (bs c.value), .int .u32 c.flags, .int .i64 c.exp, .bool c.hasExp, .int .u64 c.cas, .bool c.hasCas, .int .u64 c.delta, .int .u64 c.init,
    .bool c.down, .bool c.vivify, .int .i64 c.vive, .int .i64 c.recache, .bool c.invalidate]
def cmdsCells (l : List Cmd) : List Value := l.flatMap cmdCells
/-- A request's value, in memory from 'base' on. -/
def IsReq (w : World) (base : Nat) (r : Req) (v : Value) : Prop :=
  ∃ vc vf, v = .agg #[.int .i64 r.kind, vc, .bool r.quiet, .bool r.tokens, .string (bs r.reply), .string (bs r.arg), .int .i64 r.skip, .bool r.close, .string (bs r.meta_), vf, .string (bs r.word)] ∧
    w.ownsRow base 59 16 vc r.cmds.length (cmdsCells r.cmds) ∧ w.ownsRow base 9 1 vf r.flags.length (strCells r.flags)
theorem IsReq.only {S : Nat → Prop} {w w' : World} {base : Nat} {r : Req} {v : Value} (h : IsReq w base r v) (k : Only S w w') (hS : ∀ i, base ≤ i → ¬ S i) : IsReq w' base r v := by
  obtain ⟨vc, vf, he, h1, h2⟩ := h
  exact ⟨vc, vf, he, owns_only h1 k hS, owns_only h2 k hS⟩
theorem IsReq.base {w : World} {base base' : Nat} {r : Req} {v : Value} (h : IsReq w base r v) (hb : base' ≤ base) : IsReq w base' r v := by
  obtain ⟨vc, vf, he, h1, h2⟩ := h
  exact ⟨vc, vf, he, owns_base h1 hb, owns_base h2 hb⟩
/-- A request without commands and flags. -/
theorem IsReq.bare (w : World) (base : Nat) (r : Req) (h1 : r.cmds = []) (h2 : r.flags = []) :
    IsReq w base r (.agg #[.int .i64 r.kind, .slice none 0 0, .bool r.quiet, .bool r.tokens, .string (bs r.reply), .string (bs r.arg), .int .i64 r.skip, .bool r.close, .string (bs r.meta_), .slice none 0 0, .string (bs r.word)]) := by
  refine ⟨_, _, rfl, ?_, ?_⟩
  · rw [h1]; exact World.ownsRow_nil _ _ _ _
  · rw [h2]; exact World.ownsRow_nil _ _ _ _

theorem bad_calls (s : List UInt8) (w : World) :
    Calls Tryz.prog 46 #[.string (bs s)] w fun e w' => ∃ v, e = .returned v ∧ v = .agg #[.int .i64 2, .slice none 0 0, .bool false, .bool false, .string (bs s), .string ⟨#[]⟩, .int .i64 0, .bool false, .string ⟨#[]⟩, .slice none 0 0, .string ⟨#[]⟩] ∧ Kept w w' := by
  go_enter Tryz.func46, Tryz.ntmps46
  go_wp2
  refine bodyPost_ret (v := .agg #[.int .i64 2, .slice none 0 0, .bool false, .bool false, .string (bs s), .string ⟨#[]⟩, .int .i64 0, .bool false, .string ⟨#[]⟩, .slice none 0 0, .string ⟨#[]⟩]) (by simp [results, Tryz.results46, go_sem]) rfl ⟨_, rfl, rfl, (Only.refl _ _).alloc _⟩

set_option maxHeartbeats 400000 in
theorem off_none (w : World) (g : Nat) (l : Line) (h : IsLine w g l) (hn : l.w = []) :
    Calls Tryz.prog 101 #[.pointer (some ⟨g, 0, none⟩)] w fun e w' => e = .returned (.tuple #[]) ∧ w = w' := by
  obtain ⟨v, hb, ⟨a, cap, rfl, h1, h2, h3⟩, hv⟩ := h
  have c1 := blk_cell hb 1
  simp [hn] at c1
  clear hb h3 hv
  go_enter Tryz.func101, Tryz.ntmps101
  go_wp2
  go_end0
  exact ⟨rfl, rfl⟩
set_option maxHeartbeats 400000 in
theorem off_no (w : World) (g : Nat) (l : Line) (h : IsLine w g l) (hn : l.w ≠ []) (hl : l.at (l.w.length - 1) ≠ noreply) :
    Calls Tryz.prog 101 #[.pointer (some ⟨g, 0, none⟩)] w fun e w' => e = .returned (.tuple #[]) ∧ w = w' := by
  have h0 : 0 < l.w.length := List.length_pos_iff.2 hn
  obtain ⟨b, off, cap, c1, c2, h63, hcap, hbg⟩ := h.word (i := l.w.length - 1) (by omega)
  clear h hn
  obtain ⟨n, hn⟩ : ∃ n, l.w.length = n + 1 := ⟨l.w.length - 1, by omega⟩
  rw [hn] at c1 c2 h63 hl hcap
  simp only [Nat.add_sub_cancel] at c2 hl
  have hE := eqs_no hl
  unfold noreply at hE
  clear h0 hn hl
  go_enter Tryz.func101, Tryz.ntmps101
  go_wp2
  go_end0
  exact ⟨rfl, rfl⟩
theorem dropLast_take {α : Type} (l : List α) (n : Nat) (h : l.length = n + 1) : l.dropLast.length = n ∧ ∀ j, j < n → l.dropLast[j]? = l[j]? := by
  refine ⟨by simp [h], fun j hj => ?_⟩
  rw [List.getElem?_dropLast, if_pos (by omega)]
set_option maxHeartbeats 400000 in
theorem off_yes (w : World) (g : Nat) (l : Line) (h : IsLine w g l) (hn : l.w ≠ []) (hl : l.at (l.w.length - 1) = noreply) :
    Calls Tryz.prog 101 #[.pointer (some ⟨g, 0, none⟩)] w fun e w' => e = .returned (.tuple #[]) ∧ IsLine w' g { l with w := l.w.dropLast, quiet := true } ∧ Only (· = g) w w' := by
  have h0 : 0 < l.w.length := List.length_pos_iff.2 hn
  have h' := h
  obtain ⟨v, hb, ⟨a, cap, rfl, h1, h2, h3⟩, hv⟩ := h
  rcases h3 with h3 | ⟨b, off, rfl, h3⟩
  · exact absurd h3 hn
  have hbg : b ≠ g := hv b rfl
  obtain ⟨n, hn⟩ : ∃ n, l.w.length = n + 1 := ⟨l.w.length - 1, by omega⟩
  have c1 := blk_cell hb 1
  have f1 := blk_free hb 1
  have c4 := blk_cell hb 4
  have f4 := blk_free hb 4
  simp at c1 c4
  have c2 := h3 n _ (List.getElem?_eq_getElem (by omega))
  have hat : l.w[n]'(by omega) = noreply := by
    rw [← hl]; simp [Line.at, hn]
  rw [hat] at c2
  have hE := eqs_yes (rfl : noreply = noreply)
  unfold noreply at hE c2
  rw [hn] at c1 h1
  have HB := Lib.hid hb; have H3 := Lib.hid h3; have HN := Lib.hid hn; have HV := Lib.hid hv
  have h63 : n + 1 ≤ 9223372036854775807 := by unfold maxLen at h2; omega
  clear hb h3 hn hv hl hat h' h0
  go_enter Tryz.func101, Tryz.ntmps101
  go_wp2
  go_end0
  obtain ⟨d1, d2⟩ := dropLast_take l.w n HN.out
  have hO : Only (· = g) w ((w.setCell ⟨g, 1, none⟩ (.slice (some ⟨b, off, none⟩) n cap)).setCell ⟨g, 4, none⟩ (.bool true)) := ((Only.refl (· = g) w).setCell (.inr rfl) _).setCell (.inr rfl) _
  refine ⟨rfl, ⟨.slice (some ⟨b, off, none⟩) n cap, (blk_set (blk_set HB.out _ _) _ _).trans (by simp), ⟨_, cap, by simp [d1], by simp [d1]; omega, h2, .inr ⟨b, off, rfl, fun j x hj => ?_⟩⟩, HV.out⟩, hO⟩
  have hj' : j < n := by have := (List.getElem?_eq_some_iff.1 hj).1; simp [HN.out] at this; omega
  have := H3.out j x (by rw [← d2 j hj']; exact hj)
  rw [World.cell?_of_block (w := w) (hO.block b (World.block_lt_of_cell? w _ this) hbg)]; exact this
end Go.Proofs.YtnlabbclmngphaaGreatDoor
