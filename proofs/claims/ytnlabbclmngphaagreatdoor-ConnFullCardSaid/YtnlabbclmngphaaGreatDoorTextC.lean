/- What line.off and line.do do in all. Conditions: texts shorter than 2^32 bytes. -/
import Derived.Test.YtnlabbclmngphaaGreatDoorTextB
namespace Go.Proofs.YtnlabbclmngphaaGreatDoor
open Go.RowKit
set_option linter.unusedSimpArgs false
set_option linter.unusedVariables false

theorem getLast_at (l : Line) (hn : l.w ≠ []) : l.w.getLast? = some (l.at (l.w.length - 1)) := by
  have h0 : 0 < l.w.length := List.length_pos_iff.2 hn
  rw [List.getLast?_eq_getElem?, List.getElem?_eq_getElem (by omega)]
  simp [Line.at, show l.w.length - 1 < l.w.length from by omega]
theorem off_calls (w : World) (g : Nat) (l : Line) (h : IsLine w g l) :
    Calls Tryz.prog 101 #[.pointer (some ⟨g, 0, none⟩)] w fun e w' => e = .returned (.tuple #[]) ∧ IsLine w' g l.off ∧ Only (· = g) w w' := by
  by_cases hn : l.w = []
  · have e : l.off = l := by simp [Line.off, hn]
    rw [e]
    refine (off_none w g l h hn).mono ?_
    rintro e w' ⟨rfl, rfl⟩
    exact ⟨rfl, h, Only.refl _ _⟩
  · by_cases hl : l.at (l.w.length - 1) = noreply
    · have e : l.off = { l with w := l.w.dropLast, quiet := true } := by unfold Line.off; rw [if_pos (by rw [getLast_at l hn, hl])]
      rw [e]
      exact off_yes w g l h hn hl
    · have e : l.off = l := by unfold Line.off; rw [if_neg (by rw [getLast_at l hn]; intro e; exact hl (Option.some.inj e))]
      rw [e]
      refine (off_no w g l h hn hl).mono ?_
      rintro e w' ⟨rfl, rfl⟩
      exact ⟨rfl, h, Only.refl _ _⟩

theorem cmdCells_length (c : Cmd) : (cmdCells c).length = 16 := rfl
@[simp] theorem cmdsCells_length : ∀ l : List Cmd, (cmdsCells l).length = l.length * 16
  | [] => rfl
  | c :: l => by
    have := cmdsCells_length l
    simp only [cmdsCells, List.flatMap_cons, List.length_append, cmdCells_length, List.length_cons] at *
    omega
def recached (c : Cmd) : Cmd := { c with recache := -1 }
theorem cmdsCells_set : ∀ (a : List Cmd) (c : Cmd) (r : List Cmd), (cmdsCells (a ++ c :: r)).set (a.length * 16 + 14) (.int .i64 (-1)) = cmdsCells (a ++ recached c :: r)
  | [], c, r => rfl
  | x :: a, c, r => by
    have ih := cmdsCells_set a c r
    have e : ∀ (z : List Cmd), cmdsCells (x :: z) = cmdCells x ++ cmdsCells z := fun _ => rfl
    rw [List.cons_append, List.cons_append, e, e, ← ih, List.length_cons]
    rw [List.set_append_right _ _ (by rw [cmdCells_length]; omega)]
    rw [cmdCells_length, show (a.length + 1) * 16 + 14 - 16 = a.length * 16 + 14 from by omega]

def zeroReq : Array Value := #[.int .i64 0, .slice none 0 0, .bool false, .bool false, .string ⟨#[]⟩, .string ⟨#[]⟩, .int .i64 0, .bool false, .string ⟨#[]⟩, .slice none 0 0, .string ⟨#[]⟩]
theorem blk_set11 {w : World} {g : Nat} {vs : Array Value} {e : TypeId} {fz : Nat × Nat} (h : w.heap[g]? = some (.cells vs e fz)) (hs : vs.size = 11) (v0 v1 v2 v3 v4 v5 v6 v7 v8 v9 v10 : Value) :
    (((((((((((w.setCell ⟨g, 0, none⟩ v0).setCell ⟨g, 1, none⟩ v1).setCell ⟨g, 2, none⟩ v2).setCell ⟨g, 3, none⟩ v3).setCell ⟨g, 4, none⟩ v4).setCell ⟨g, 5, none⟩ v5).setCell ⟨g, 6, none⟩ v6).setCell ⟨g, 7, none⟩ v7).setCell ⟨g, 8, none⟩ v8).setCell ⟨g, 9, none⟩ v9).setCell ⟨g, 10, none⟩ v10).heap[g]? = some (.cells #[v0, v1, v2, v3, v4, v5, v6, v7, v8, v9, v10] e fz) := by
  match vs, hs with
  | ⟨[a0, a1, a2, a3, a4, a5, a6, a7, a8, a9, a10]⟩, _ =>
    refine (blk_set (blk_set (blk_set (blk_set (blk_set (blk_set (blk_set (blk_set (blk_set (blk_set (blk_set h 0 v0) 1 v1) 2 v2) 3 v3) 4 v4) 5 v5) 6 v6) 7 v7) 8 v8) 9 v9) 10 v10).trans ?_
    simp
theorem only_set11 (w : World) (g : Nat) (v0 v1 v2 v3 v4 v5 v6 v7 v8 v9 v10 : Value) : Only (· = g) w (((((((((((w.setCell ⟨g, 0, none⟩ v0).setCell ⟨g, 1, none⟩ v1).setCell ⟨g, 2, none⟩ v2).setCell ⟨g, 3, none⟩ v3).setCell ⟨g, 4, none⟩ v4).setCell ⟨g, 5, none⟩ v5).setCell ⟨g, 6, none⟩ v6).setCell ⟨g, 7, none⟩ v7).setCell ⟨g, 8, none⟩ v8).setCell ⟨g, 9, none⟩ v9).setCell ⟨g, 10, none⟩ v10) := by
  refine Only.setCell (Only.setCell (Only.setCell (Only.setCell (Only.setCell (Only.setCell (Only.setCell (Only.setCell (Only.setCell (Only.setCell (Only.setCell (Only.refl (· = g) w) (.inr rfl) _) (.inr rfl) _) (.inr rfl) _) (.inr rfl) _) (.inr rfl) _) (.inr rfl) _) (.inr rfl) _) (.inr rfl) _) (.inr rfl) _) (.inr rfl) _) (.inr rfl) _
theorem take_map_snoc {cs : List Cmd} {k : Nat} (hlt : k < cs.length) : (cs.take (k + 1)).map recached ++ cs.drop (k + 1) = (cs.take k).map recached ++ recached cs[k] :: cs.drop (k + 1) := by
  rw [List.take_succ_eq_append_getElem hlt, List.map_append]; simp
set_option maxRecDepth 100000 in
set_option maxHeartbeats 1000000 in
theorem do_calls (w : World) (g base : Nat) (l : Line) (v : Value) (cs : List Cmd) (h : IsLine w g l) (hg : g < base) (ho : w.ownsRow base 59 16 v cs.length (cmdsCells cs)) (hn : cs.length ≤ 4294967281) (hbs : base ≤ w.heap.size) :
    Calls Tryz.prog 99 #[.pointer (some ⟨g, 0, none⟩), v] w fun e w' => ∃ v', e = .returned v' ∧ IsReq w' base (l.req cs) v' ∧ Only (base ≤ ·) w w' := by
  obtain ⟨vw, hb, hs, hv⟩ := h
  have hsh : ∃ a cap, v = .slice a cs.length cap := by
    rcases ho.2 with ⟨rfl, hz⟩ | ⟨b, cap, cur, rfl, _⟩
    · exact ⟨none, 0, by rw [hz]⟩
    · exact ⟨_, _, rfl⟩
  obtain ⟨a, cap, rfl⟩ := hsh
  have HB := Lib.hid hb; have HL := Lib.hid ho.lt; clear hb hs hv
  go_enter Tryz.func99, Tryz.ntmps99
  go_wp2
  go_loopw [8] (fun i wr => ∃ k : Nat, k ≤ cs.length ∧ i = .int .i64 k ∧ wr.ownsRow base 59 16 (.slice a cs.length cap) cs.length (cmdsCells ((cs.take k).map recached ++ cs.drop k)) ∧ Hid (Only (fun i => base ≤ i ∧ i < w.heap.size) (w.alloc (.cells zeroReq 35)) wr)) (fun i _ => cs.length - (intOf i).toNat)
  case atStart => exact ⟨0, Nat.zero_le _, rfl, by simpa using ho.alloc _, Only.refl _ _⟩
  case round =>
    obtain ⟨k, hk, rfl, hr, hO⟩ := hrel
    by_cases hlt : k < cs.length
    · have hz : ∃ b, a = some ⟨b, 0, none⟩ := by
        rcases hr.2 with ⟨hh, hz⟩ | ⟨b, cap', cur, hh, _⟩
        · omega
        · cases hh; exact ⟨b, rfl⟩
      obtain ⟨b, rfl⟩ := hz
      have hc := hr.cellAt (k * 16 + 14) (by omega)
      have hf := hr.frozenAt (k * 16 + 14)
      obtain ⟨u, hu⟩ : ∃ u, (cmdsCells ((cs.take k).map recached ++ cs.drop k))[k * 16 + 14]? = some u :=
        ⟨_, List.getElem?_eq_getElem (by simp; omega)⟩
      rw [hu] at hc
      have HO := Lib.hid (ho.lt b rfl)
      have HR := Lib.hid hr; have HU := Lib.hid hu; clear hr ho hu
      go_wp2
      go_roundw
      case rel =>
        have hcs : cs.drop k = cs[k] :: cs.drop (k + 1) := List.drop_eq_getElem_cons hlt
        have hst := (HR.out.stored (k * 16 + 14) (.int .i64 (-1))).1
        have hset := cmdsCells_set ((cs.take k).map recached) cs[k] (cs.drop (k + 1))
        rw [List.length_map, List.length_take, Nat.min_eq_left hk] at hset
        rw [hcs, hset] at hst
        refine ⟨k + 1, by omega, by go_num, ?_, ?_⟩
        · rw [take_map_snoc hlt]; exact hst
        · exact hO.out.setCell (.inr HO.out) _
      case measure => simp [intOf]; omega
    · have hk' : k = cs.length := by omega
      have hz := blk_only (blk_new w (.cells zeroReq 35)) hO.out (fun h => by omega)
      have hc4 := blk_cell (blk_only (blk_alloc HB.out _) hO.out (fun h => by omega)) 4
      simp at hc4
      have k0 := blk_cell hz 0
      have z0 := blk_free hz 0
      have k1 := blk_cell hz 1
      have z1 := blk_free hz 1
      have k2 := blk_cell hz 2
      have z2 := blk_free hz 2
      have k3 := blk_cell hz 3
      have z3 := blk_free hz 3
      have k4 := blk_cell hz 4
      have z4 := blk_free hz 4
      have k5 := blk_cell hz 5
      have z5 := blk_free hz 5
      have k6 := blk_cell hz 6
      have z6 := blk_free hz 6
      have k7 := blk_cell hz 7
      have z7 := blk_free hz 7
      have k8 := blk_cell hz 8
      have z8 := blk_free hz 8
      have k9 := blk_cell hz 9
      have z9 := blk_free hz 9
      have k10 := blk_cell hz 10
      have z10 := blk_free hz 10
      simp [zeroReq] at k0 k1 k2 k3 k4 k5 k6 k7 k8 k9 k10
      have HR := Lib.hid hr; have HZ := Lib.hid hz; clear hr ho hz
      go_wp2
      have hW := blk_set11 HZ.out rfl (.int .i64 1) (.slice a cs.length cap) (.bool l.quiet) (.bool false) (.string ⟨#[]⟩) (.string ⟨#[]⟩) (.int .i64 0) (.bool false) (.string ⟨#[]⟩) (.slice none 0 0) (.string ⟨#[]⟩)
      have hOW := only_set11 wr w.heap.size (.int .i64 1) (.slice a cs.length cap) (.bool l.quiet) (.bool false) (.string ⟨#[]⟩) (.string ⟨#[]⟩) (.int .i64 0) (.bool false) (.string ⟨#[]⟩) (.slice none 0 0) (.string ⟨#[]⟩)
      have q0 := blk_cell hW 0
      have q1 := blk_cell hW 1
      have q2 := blk_cell hW 2
      have q3 := blk_cell hW 3
      have q4 := blk_cell hW 4
      have q5 := blk_cell hW 5
      have q6 := blk_cell hW 6
      have q7 := blk_cell hW 7
      have q8 := blk_cell hW 8
      have q9 := blk_cell hW 9
      have q10 := blk_cell hW 10
      simp only [List.getElem?_toArray, List.getElem?_cons_zero, List.getElem?_cons_succ] at q0 q1 q2 q3 q4 q5 q6 q7 q8 q9 q10
      refine bodyPost_ret (v := .agg #[.int .i64 1, .slice a cs.length cap, .bool l.quiet, .bool false, .string ⟨#[]⟩, .string ⟨#[]⟩, .int .i64 0, .bool false, .string ⟨#[]⟩, .slice none 0 0, .string ⟨#[]⟩]) (by simp [results, Tryz.results99, go_sem, q0, q1, q2, q3, q4, q5, q6, q7, q8, q9, q10]) rfl ?_
      have hwr := HR.out
      rw [hk', List.take_length, List.drop_length, List.append_nil] at hwr
      have hl : (l.req cs).cmds.length = cs.length := by simp [Line.req]
      refine ⟨_, rfl, ⟨_, _, rfl, ?_, World.ownsRow_nil _ _ _ _⟩, ?_⟩
      · rw [hl]
        exact owns_ne hwr hOW (fun i hi e => by have := (HL.out i hi).2; omega)
      · exact (((Only.refl (base ≤ ·) w).alloc _).then hO.out (fun i _ h => h.1)).then hOW (fun i hi e => by omega)
end Go.Proofs.YtnlabbclmngphaaGreatDoor
