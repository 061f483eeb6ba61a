/- What line.get does. Conditions: texts shorter than 2^32 bytes, fewer than 2^32 words. -/
import Derived.Test.YtnlabbclmngphaaGreatDoorTextC
namespace Go.Proofs.YtnlabbclmngphaaGreatDoor
open Go.RowKit
set_option linter.unusedSimpArgs false
set_option linter.unusedVariables false

theorem hasPrefix_calls (l p : List UInt8) (w : World) : Calls Tryz.prog 95 #[.string (bs l), .string (bs p)] w fun e w' => e = .returned (.bool (Lib.hasPrefix l p)) ∧ w = w' :=
  (Tryz.strings_HasPrefix (bs l) (bs p) w).mono fun _ _ ⟨he, hw⟩ => ⟨he, hw.symm⟩
theorem hasSuffix_calls (l p : List UInt8) (w : World) (hl : l.length < 4294967281) : Calls Tryz.prog 100 #[.string (bs l), .string (bs p)] w fun e w' => e = .returned (.bool (Lib.hasSuffix l p)) ∧ w = w' :=
  (Tryz.strings_HasSuffix (bs l) (bs p) w (by rw [size_bs]; omega)).mono fun _ _ ⟨he, hw⟩ => ⟨he, hw.symm⟩

def zeroCmd : Array Value := #[.int .i64 0, .int .i64 0, .string ⟨#[]⟩, .string ⟨#[]⟩, .int .u32 0, .int .i64 0, .bool false, .int .u64 0, .bool false, .int .u64 0, .int .u64 0, .bool false, .bool false, .int .i64 0, .int .i64 0, .bool false]
theorem infoCmd : (Tryz.prog.info? 59).map (fun i => (i.zero, i.size, i.bytes)) = some (some (.agg zeroCmd), 16, 136) := by kernel_rfl

theorem cmdCells_one (c : Cmd) : ∀ u ∈ cmdCells c, u.oneCell' = true := by
  intro u hu
  simp only [cmdCells, List.mem_cons, List.mem_nil_iff, or_false] at hu
  rcases hu with rfl | rfl | rfl | rfl | rfl | rfl | rfl | rfl | rfl | rfl | rfl | rfl | rfl | rfl | rfl | rfl <;> rfl
theorem cells_new (w : World) (l : List Value) (e : TypeId) : ∀ (j : Nat) (u : Value), l[j]? = some u → (w.alloc (.cells l.toArray e)).cell? ((⟨w.heap.size, 0, none⟩ : Addr).add j) = some u := by
  intro j u hj
  have h := blk_new w (.cells l.toArray e)
  have e1 : ((⟨w.heap.size, 0, none⟩ : Addr).add j) = ⟨w.heap.size, j, none⟩ := by
    unfold Addr.add
    split
    · next h0 => subst h0; rfl
    · simp
  rw [e1, blk_cell h j]; simpa using hj
set_option maxRecDepth 100000 in
set_option maxHeartbeats 1000000 in
theorem get_plain (w : World) (g : Nat) (l : Line) (h : IsLine w g l) (hx : ∀ x ∈ l.w, x.length < 4294967281) (hn : l.w.length ≤ 4294967281) (hname : l.name.length < 4294967281) (hgat : l.gat = false) (hne : l.w ≠ []) (hk : l.w.all isKey = true) :
    Calls Tryz.prog 67 #[.pointer (some ⟨g, 0, none⟩)] w fun e w' => ∃ v, e = .returned v ∧
      IsReq w' w.heap.size { l.req (l.w.map fun k => { op := 1, key := k }) with tokens := Lib.hasSuffix l.name [115] } v ∧ Kept w w' := by
  obtain ⟨vw, hb, ⟨a, cap, rfl, h1, h2, h3⟩, hv⟩ := h
  obtain ⟨b, off, ha, h3x⟩ : ∃ b off, a = some ⟨b, off, none⟩ ∧ ∀ j x, l.w[j]? = some x → w.cell? ⟨b, off + j, none⟩ = some (.string (bs x)) := h3.resolve_left hne
  subst ha
  clear h3
  have c0 := blk_cell hb 0
  have c1 := blk_cell hb 1
  simp at c0 c1
  have hpos : 0 < l.w.length := List.length_pos_iff.2 hne
  have hgl := blk_lt hb
  have HB := Lib.hid hb; have H3 := Lib.hid h3x; have HV := Lib.hid hv; have HE := Lib.hid hne
  clear hb h3x hv hne
  go_enter Tryz.func67, Tryz.ntmps67
  go_wp2_with (first | (go_at_call 95; refine (hasPrefix_calls l.name [103, 97, 116] _).mono ?_; rintro e w' ⟨rfl, rfl⟩; rw [show Lib.hasPrefix l.name [103, 97, 116] = false from hgat]) | (go_at_call 98; refine (need_yes eError _).mono ?_; rintro e w' ⟨rfl, rfl⟩))
  obtain ⟨W1, hW1⟩ : ∃ W1, (w.alloc (.cells zeroReq 35)).alloc (.cells (cmdCells { op := 1 }).toArray 59) = W1 := ⟨_, rfl⟩
  have hN0 : W1.heap[w.heap.size]? = some (.cells zeroReq 35 (0, 0)) := by rw [← hW1]; exact blk_alloc (blk_new _ _) _
  have hN1 : W1.heap[w.heap.size + 1]? = some (.cells (cmdCells { op := 1 }).toArray 59 (0, 0)) := by
    rw [← hW1]; have := blk_new (w.alloc (.cells zeroReq 35)) (.cells (cmdCells { op := 1 }).toArray 59); rwa [World.size_alloc] at this
  have hKW : Kept w W1 := by rw [← hW1]; exact ((Only.refl _ w).alloc _).alloc _
  have hs1 : w.heap.size + 2 ≤ W1.heap.size := by rw [← hW1]; simp
  have HW1 := Lib.hid hW1
  show Code.wp _ _ _ _ ((w.alloc (.cells zeroReq 35)).alloc (.cells (cmdCells { op := 1 }).toArray 59))
  rw [hW1]
  clear hW1
  have HN0 := Lib.hid hN0; have HN1 := Lib.hid hN1; have HKW := Lib.hid hKW; have HK := Lib.hid hk; have HX := Lib.hid hx
  have hgb : g < w.heap.size ∧ b < w.heap.size := ⟨hgl, World.block_lt_of_cell? w _ (H3.out 0 _ (List.getElem?_eq_getElem hpos))⟩
  obtain ⟨i0, hinf, hz0, hz1, hz2⟩ := info_parts infoCmd
  clear hN0 hN1 hKW hk hx c0 c1
  go_loopw [5, 41] (fun va i wr => ∃ k : Nat, k ≤ l.w.length ∧ i = .int .i64 k ∧ Hid (∃ x, wr.heap[w.heap.size + 1]? = some (.cells (cmdCells { ({ op := 1 } : Cmd) with key := x }).toArray 59 (0, 0))) ∧
      Hid (wr.ownsRow W1.heap.size 59 16 va k (cmdsCells ((l.w.take k).map fun x => { ({ op := 1 } : Cmd) with key := x }))) ∧ Hid (Only (fun i => i = w.heap.size + 1) W1 wr))
    (fun _ i _ => l.w.length - (intOf i).toNat)
  case atStart => exact ⟨0, Nat.zero_le _, rfl, ⟨[], HN1.out⟩, World.ownsRow_nil _ _ _ _, Only.refl _ _⟩
  case round =>
    obtain ⟨k, hkl, rfl, ⟨x0, hz⟩, hrow, hO⟩ := hrel
    by_cases hlt : k < l.w.length
    · have hcell := H3.out k _ (List.getElem?_eq_getElem hlt)
      have hcell1 := (World.cell?_of_block (w := w) (HKW.out.block b hgb.2 id)).trans hcell
      have hcell2 := (World.cell?_of_block (w := W1) (hO.out.block b (World.block_lt_of_cell? W1 _ hcell1) (by omega))).trans hcell1
      have hlen := HX.out _ (List.getElem_mem hlt)
      have hkey := (List.all_eq_true.1 HK.out) _ (List.getElem_mem hlt)
      obtain ⟨x, hxe⟩ : ∃ x, l.w[k] = x := ⟨_, rfl⟩
      rw [hxe] at hcell2 hlen hkey
      have k0 := blk_cell hz 0
      have k1 := blk_cell hz 1
      have k2 := blk_cell hz 2
      have k3 := blk_cell hz 3
      have k4 := blk_cell hz 4
      have k5 := blk_cell hz 5
      have k6 := blk_cell hz 6
      have k7 := blk_cell hz 7
      have k8 := blk_cell hz 8
      have k9 := blk_cell hz 9
      have k10 := blk_cell hz 10
      have k11 := blk_cell hz 11
      have k12 := blk_cell hz 12
      have k13 := blk_cell hz 13
      have k14 := blk_cell hz 14
      have k15 := blk_cell hz 15
      have z2 := blk_free hz 2
      simp [cmdCells] at k0 k1 k2 k3 k4 k5 k6 k7 k8 k9 k10 k11 k12 k13 k14 k15
      have hsz : w.heap.size + 2 ≤ wr.heap.size := by have := hO.out.size; omega
      have hsz1 : W1.heap.size ≤ wr.heap.size := hO.out.size
      have HZ := Lib.hid hz; have HXE := Lib.hid hxe
      have hsc : (wr.setCell ⟨w.heap.size + 1, 2, none⟩ (.string (bs x))).heap.size = wr.heap.size := by simp [World.setCell]
      have hnews := cells_new (wr.setCell ⟨w.heap.size + 1, 2, none⟩ (.string (bs x))) (cmdCells { ({ op := 1 } : Cmd) with key := x }) 59
      rw [hsc] at hnews
      have HNEWS := Lib.hid hnews
      have hown := (ownsRow_setCell_below hrow.out (a := ⟨w.heap.size + 1, 2, none⟩) (show w.heap.size + 1 < _ by omega) (.string (bs x)))
      have HOWN := Lib.hid hown
      have HSC := Lib.hid hsc
      clear hcell hcell1 hz hxe hnews hown hsc
      go_wp2_with (first | (go_at_call 64; refine (key_any (bs x) _ (by rw [size_bs]; omega)).mono ?_; rintro e w' ⟨rfl, rfl⟩; rw [tl_bs, hkey]) | (go_at_call 98; refine (need_yes eFormat _).mono ?_; rintro e w' ⟨rfl, rfl⟩) | (at_builtin; refine wpList_append_own _ rfl _ _ 32 rfl W1.heap.size 59 i0 (.agg zeroCmd) 16 136 Tryz.underlying32 hinf hz0 hz1 hz2 rfl (by decide) _ k (cmdsCells ((l.w.take k).map fun x => { ({ op := 1 } : Cmd) with key := x })) rfl (HOWN.out.alloc _) ⟨wr.heap.size, 0, none⟩ 1 1 (cmdCells { ({ op := 1 } : Cmd) with key := x }) rfl rfl HNEWS.out (cmdCells_one _) (by unfold maxLen; omega) (by omega) (by simp; omega) ?_; intro v' w1 hown' hgrow _))
      go_roundw
      case rel =>
        have hg1 : (wr.setCell ⟨w.heap.size + 1, 2, none⟩ (.string (bs x))).heap[w.heap.size + 1]? = some (.cells (cmdCells { ({ op := 1 } : Cmd) with key := x }).toArray 59 (0, 0)) := (blk_set HZ.out 2 _).trans (by simp [cmdCells])
        have hO1 : Only (fun i => i = w.heap.size + 1) W1 (wr.setCell ⟨w.heap.size + 1, 2, none⟩ (.string (bs x))) := hO.out.setCell (.inr rfl) _
        have hlt' := HOWN.out.lt
        refine ⟨k + 1, by omega, by go_num, ⟨x, ?_⟩, ?_, ?_⟩
        · exact (hgrow.block _ (by simp [World.setCell]; omega) (fun e => by have := (hlt' _ e.symm).1; omega)).trans (blk_alloc hg1 _)
        · have e1 : (l.w.take (k + 1)).map (fun x => ({ ({ op := 1 } : Cmd) with key := x } : Cmd)) = (l.w.take k).map (fun x => ({ ({ op := 1 } : Cmd) with key := x } : Cmd)) ++ [{ ({ op := 1 } : Cmd) with key := x }] := by
            rw [List.take_succ_eq_append_getElem hlt, List.map_append, HXE.out]; rfl
          rw [e1]
          simpa [cmdsCells, Hid] using hown'
        · exact (hO1.alloc _).then (Only.grown hgrow) (fun i hi e => by have := (hlt' i e.symm).1; omega)
      case measure => simp [intOf]; omega
    · have hk' : k = l.w.length := by omega
      have hsz1 : W1.heap.size ≤ wr.heap.size := hO.out.size
      have hN := blk_only HN0.out hO.out (fun h => by omega)
      have hLine : IsLine wr g l := ⟨_, blk_only (blk_only HB.out HKW.out id) hO.out (fun h => by omega), (Strs.only (Strs.only ⟨_, cap, rfl, h1, h2, .inr ⟨b, off, rfl, H3.out⟩⟩ HKW.out (fun _ _ h => h)) hO.out (fun i hi h => by
        have e : b = i := by simpa [Value.ownBlock] using hi
        omega)), HV.out⟩
      have hrow' := hrow.out
      rw [hk', List.take_length] at hrow'
      have HLN := Lib.hid hLine; have HR := Lib.hid hrow'; have HN := Lib.hid hN
      have hlen : (l.w.map fun x => { ({ op := 1 } : Cmd) with key := x }).length = l.w.length := by simp
      have HLEN := Lib.hid hlen
      clear hLine hrow' hrow hN hlen hz
      go_wp2_with fail
      refine (do_calls wr g W1.heap.size l _ (l.w.map fun x => { ({ op := 1 } : Cmd) with key := x }) HLN.out (by omega) (by rw [HLEN.out]; exact HR.out) (by rw [HLEN.out]; exact hn) hsz1).mono ?_
      rintro e w2 ⟨v2, rfl, hreq, hO3⟩
      obtain ⟨r, hr⟩ : ∃ r, l.req (l.w.map fun x => { ({ op := 1 } : Cmd) with key := x }) = r := ⟨_, rfl⟩
      rw [hr] at hreq
      obtain ⟨vc, vf, rfl, hvc, hvf⟩ := hreq
      obtain ⟨a1, cap1, rfl⟩ := owns_slice hvc
      obtain ⟨a2, cap2, rfl⟩ := owns_slice hvf
      have c0 := blk_cell (blk_only (blk_only (blk_only HB.out HKW.out id) hO.out (fun h => by omega)) hO3 (fun h => by omega)) 0
      have hN2 := blk_only HN.out hO3 (fun h => by omega)
      have HRR := Lib.hid hr; have HO3 := Lib.hid hO3; have HVC := Lib.hid hvc; have HVF := Lib.hid hvf; have HN2 := Lib.hid hN2
      have hb2 : w.heap.size + 2 ≤ w2.heap.size := by have := hO3.size; omega
      have hg2 : g < w2.heap.size := by omega
      have hn2 : w.heap.size < w2.heap.size := by omega
      simp at c0
      have k0 := blk_cell hN2 0
      have z0 := blk_free hN2 0
      have k1 := blk_cell hN2 1
      have z1 := blk_free hN2 1
      have k2 := blk_cell hN2 2
      have z2 := blk_free hN2 2
      have k3 := blk_cell hN2 3
      have z3 := blk_free hN2 3
      have k4 := blk_cell hN2 4
      have z4 := blk_free hN2 4
      have k5 := blk_cell hN2 5
      have z5 := blk_free hN2 5
      have k6 := blk_cell hN2 6
      have z6 := blk_free hN2 6
      have k7 := blk_cell hN2 7
      have z7 := blk_free hN2 7
      have k8 := blk_cell hN2 8
      have z8 := blk_free hN2 8
      have k9 := blk_cell hN2 9
      have z9 := blk_free hN2 9
      have k10 := blk_cell hN2 10
      have z10 := blk_free hN2 10
      simp [zeroReq] at k0 k1 k2 k3 k4 k5 k6 k7 k8 k9 k10
      clear hO3 hvc hvf hN2 hr
      go_wp2_with (go_at_call 100; refine (hasSuffix_calls l.name [115] _ hname).mono ?_; rintro e w' ⟨rfl, rfl⟩)
      have hW := blk_alloc (blk_set11 HN2.out rfl (.int .i64 r.kind) (.slice a1 r.cmds.length cap1) (.bool r.quiet) (.bool (Lib.hasSuffix l.name [115])) (.string (bs r.reply)) (.string (bs r.arg)) (.int .i64 r.skip) (.bool r.close) (.string (bs r.meta_)) (.slice a2 r.flags.length cap2) (.string (bs r.word))) (.cells #[.int .i64 r.kind, .slice a1 r.cmds.length cap1, .bool r.quiet, .bool (Lib.hasSuffix l.name [115]), .string (bs r.reply), .string (bs r.arg), .int .i64 r.skip, .bool r.close, .string (bs r.meta_), .slice a2 r.flags.length cap2, .string (bs r.word)] 35)
      have hOW := (only_set11 w2 w.heap.size (.int .i64 r.kind) (.slice a1 r.cmds.length cap1) (.bool r.quiet) (.bool (Lib.hasSuffix l.name [115])) (.string (bs r.reply)) (.string (bs r.arg)) (.int .i64 r.skip) (.bool r.close) (.string (bs r.meta_)) (.slice a2 r.flags.length cap2) (.string (bs r.word))).alloc (.cells #[.int .i64 r.kind, .slice a1 r.cmds.length cap1, .bool r.quiet, .bool (Lib.hasSuffix l.name [115]), .string (bs r.reply), .string (bs r.arg), .int .i64 r.skip, .bool r.close, .string (bs r.meta_), .slice a2 r.flags.length cap2, .string (bs r.word)] 35)
      have q0 := blk_cell hW 0
      have q1 := blk_cell hW 1
      have q2 := blk_cell hW 2
      have q3 := blk_cell hW 3
      have q4 := blk_cell hW 4
      have q5 := blk_cell hW 5
      have q6 := blk_cell hW 6
      have q7 := blk_cell hW 7
      have q8 := blk_cell hW 8
      have q9 := blk_cell hW 9
      have q10 := blk_cell hW 10
      simp only [List.getElem?_toArray, List.getElem?_cons_zero, List.getElem?_cons_succ] at q0 q1 q2 q3 q4 q5 q6 q7 q8 q9 q10
      refine bodyPost_ret (v := .agg #[.int .i64 r.kind, .slice a1 r.cmds.length cap1, .bool r.quiet, .bool (Lib.hasSuffix l.name [115]), .string (bs r.reply), .string (bs r.arg), .int .i64 r.skip, .bool r.close, .string (bs r.meta_), .slice a2 r.flags.length cap2, .string (bs r.word)]) (by simp [results, Tryz.results67, go_sem, q0, q1, q2, q3, q4, q5, q6, q7, q8, q9, q10]) rfl ?_
      rw [HRR.out]
      refine ⟨_, rfl, ⟨_, _, rfl, ?_, ?_⟩, ?_⟩
      · exact owns_base (owns_only HVC.out hOW (fun i hi e => by omega)) (by omega)
      · exact owns_base (owns_only HVF.out hOW (fun i hi e => by omega)) (by omega)
      · exact ((HKW.out.then hO.out (fun i hi e => by omega)).then HO3.out (fun i hi e => by omega)).then hOW (fun i hi e => by omega)
end Go.Proofs.YtnlabbclmngphaaGreatDoor
