/- What text.Parse does with a line that has words. Conditions: texts shorter than 2^32 bytes; what line.read does comes in as a premise. -/
import Derived.Test.YtnlabbclmngphaaGreatDoorTextF
import Derived.Test.YtnlabbclmngphaaGreatDoorConnA
import Derived.Deep.RegionWith
namespace Go.Proofs.YtnlabbclmngphaaGreatDoor
open Go.RowKit
set_option linter.unusedSimpArgs false
set_option linter.unusedVariables false
attribute [local go_sem ↓] run_min2 run_max2

/-- The first 2048 bytes. -/
theorem cut2048 (b : ByteArray) : ∃ m : Nat, min (b.size : Int) 2048 = (m : Int) ∧ m ≤ b.size ∧ b.extract 0 m = bs ((tl b).take 2048) := by
  refine ⟨min b.size 2048, by omega, by omega, ?_⟩
  rw [extract_take]
  congr 1
  by_cases h : b.size ≤ 2048
  · rw [Nat.min_eq_left h, List.take_of_length_le (by rw [tl_length]; omega), List.take_of_length_le (by rw [tl_length]; omega)]
  · rw [Nat.min_eq_right (by omega)]

/-- What an owned row of texts holds. -/
theorem owns_strs {w : World} {base n cap : Nat} {a : Option Addr} {x : List UInt8} {l : List (List UInt8)} (h : w.ownsRow base 9 1 (.slice a n cap) (x :: l).length (strCells (x :: l))) :
    ∃ b, a = some ⟨b, 0, none⟩ ∧ n = l.length + 1 ∧ base ≤ b ∧ b < w.heap.size ∧ n ≤ cap ∧ cap ≤ maxLen ∧ ∀ (j : Nat) y, (x :: l)[j]? = some y → w.cell? ⟨b, j, none⟩ = some (.string (bs y)) := by
  rcases h.2 with ⟨_, h0⟩ | ⟨g, cap', cur, he, hb, hg, h1, h2, h3, h4⟩
  · simp at h0
  · injection he with ha hn hc
    subst ha hn hc
    refine ⟨g, rfl, by simp, hb, blk_lt hg, h1, h2, fun j y hj => ?_⟩
    rw [blk_cell hg]
    have hlt := (List.getElem?_eq_some_iff.1 hj).1
    have h5 : (strCells (x :: l))[j]? = some (.string (bs y)) := by simp only [strCells, List.getElem?_map, hj]; rfl
    rw [← h4, List.getElem?_take_of_lt (by omega)] at h5
    simpa using h5

set_option maxRecDepth 100000 in
set_option maxHeartbeats 1000000 in
theorem parse_words (w : World) (b : ByteArray) (hb : b.size ≤ 4294967281) (name : List UInt8) (ws : List (List UInt8)) (r : Req) (more : Bool) (used : Int)
    (hnl : 10 ∈ (tl b).take 2048) (hws : wordsOf (lineOf ((tl b).take 2048)) = name :: ws) (hused : 0 ≤ used ∧ used ≤ 2000000000) (hmore : more = false)
    (hread : ∀ w0 g, IsLine w0 g { name := name, w := ws, behind := (tl b).drop ((ahead 10 ((tl b).take 2048)).length + 1), used := 0, quiet := false } → Kept w w0 → w.heap.size ≤ g →
      Calls Tryz.prog 47 #[.pointer (some ⟨g, 0, none⟩)] w0 fun e w' => ∃ v, e = .returned (.tuple #[v, .bool more]) ∧ IsReq w' w0.heap.size r v ∧ w'.cell? ⟨g, 3, none⟩ = some (.int .i64 used) ∧ Only (· = g) w0 w') :
    Calls Tryz.prog 30 #[.string b] w fun e w' => ∃ v, e = .returned (.tuple #[v, .int .i64 ((ahead 10 ((tl b).take 2048)).length + 1 + used)]) ∧ IsReq w' w.heap.size r v ∧ Kept w w' := by
  subst hmore
  obtain ⟨m, hm, hmle, hcut⟩ := cut2048 b
  obtain ⟨t, ht⟩ : ∃ t, (tl b).take 2048 = t := ⟨_, rfl⟩
  rw [ht] at hcut hnl hws hread ⊢
  have htl : t.length ≤ 2048 := by rw [← ht]; simp; omega
  have htl2 : t.length ≤ b.size := by rw [← ht, ← tl_length]; simp; omega
  obtain ⟨n, hn⟩ : ∃ n, (ahead 10 t).length + 1 = n := ⟨_, rfl⟩
  have hnle : n ≤ t.length := by have := ahead_lt 10 t hnl; omega
  have hn0 : ((n : Int) == 0) = false := by simp; omega
  have hlo : (lineOf t).length ≤ 4294967281 := by
    have h1 : (Lib.trimSuffix (ahead 10 t) [13]).length ≤ (ahead 10 t).length := by unfold Lib.trimSuffix; split <;> simp
    have := ahead_le 10 t
    unfold lineOf; omega
  have hn' : (((ahead 10 t).length : Int) + 1) = (n : Int) := by omega
  rw [hn'] 
  have HN := Lib.hid hn; have HC := Lib.hid hcut; have HNL := Lib.hid hnl; have HWS := Lib.hid hws; have HR := Lib.hid hread; have HN2 := Lib.hid hn'
  clear hn hnl hws hread hn' ht
  go_enter Tryz.func30, Tryz.ntmps30
  go_wp2_with fail

  refine (line_yes (bs t) _ (by rw [size_bs]; omega) HNL.out).mono ?_
  rintro e w1 ⟨rfl, q, rfl⟩
  rw [tl_bs, HN.out]
  go_wp2_with fail
  have hbn : b.extract n b.size = bs ((tl b).drop n) := extract_drop b n
  have hnb : n ≤ b.size := by omega
  go_region_with (go_at_call 43; refine (split_calls (lineOf t) _ hlo).mono ?_; rintro e w2 ⟨v2, rfl, hown, hK2⟩; obtain ⟨a2, cap2, rfl⟩ := owns_slice hown)
  rw [HWS.out] at hown
  obtain ⟨b2, rfl, -, hb2, hbl2, hcap2, hmax2, hcell2⟩ := owns_strs hown
  rw [HWS.out]
  obtain ⟨W3, hW3⟩ : ∃ W3, w2.alloc (.cells #[.string ⟨#[]⟩, .slice (some ⟨b2, 0, none⟩) (name :: ws).length cap2, .string (bs (List.drop n (tl b))), .int .i64 0, .bool false] 82) = W3 := ⟨_, rfl⟩
  have hb3 : W3.heap[w2.heap.size]? = some (.cells #[.string ⟨#[]⟩, .slice (some ⟨b2, 0, none⟩) (name :: ws).length cap2, .string (bs (List.drop n (tl b))), .int .i64 0, .bool false] 82 (0, 0)) := by rw [← hW3]; exact blk_new _ _
  have hc3 : W3.cell? ⟨b2, 0, none⟩ = some (.string (bs name)) := by rw [← hW3, World.cell?_alloc_past _ _ _ hbl2]; exact hcell2 0 name rfl
  have k0 := blk_cell hb3 0
  have z0 := blk_free hb3 0
  have k1 := blk_cell hb3 1
  have z1 := blk_free hb3 1
  have k2 := blk_cell hb3 2
  have k3 := blk_cell hb3 3
  have k4 := blk_cell hb3 4
  simp at k0 k1 k2 k3 k4
  have hne : b2 ≠ w2.heap.size := by omega
  rw [hW3]
  go_wp2_with fail
  go_region
  obtain ⟨a3, ha3⟩ : ∃ a3 : Option Addr, (if cap2 = 1 then some ⟨b2, 0, none⟩ else some ⟨b2, 1, none⟩) = a3 := ⟨_, rfl⟩
  rw [ha3]
  obtain ⟨W4, hW4⟩ : ∃ W4, ((W3.setCell ⟨w2.heap.size, 0, none⟩ (.string (bs name))).setCell ⟨w2.heap.size, 1, none⟩ (.slice a3 ws.length (cap2 - 1))).drew = W4 := ⟨_, rfl⟩
  rw [hW4]
  simp only [List.length_cons] at hcap2
  have hs1 : ((w.alloc (.cells zeroReq 35)).drewN (q + 1)).heap.size = w.heap.size + 1 := by simp
  have hN1 : ((w.alloc (.cells zeroReq 35)).drewN (q + 1)).heap[w.heap.size]? = some (.cells zeroReq 35 (0, 0)) := blk_drewN (blk_new _ _) _
  have hK1 : Kept w ((w.alloc (.cells zeroReq 35)).drewN (q + 1)) := ((Only.refl _ w).alloc _).drewN _
  have hK12 : Kept w w2 := hK1.trans hK2
  have hN2 : w2.heap[w.heap.size]? = some (.cells zeroReq 35 (0, 0)) := blk_only hN1 hK2 id
  have hs2 : w.heap.size + 1 ≤ w2.heap.size := by have := hK2.size; simpa using this
  have hO4 : Only (fun k => k = w2.heap.size) w2 W4 := by
    rw [← hW4, ← hW3]
    exact ((((Only.refl (fun k => k = w2.heap.size) w2).alloc _).setCell (.inr rfl) _).setCell (.inr rfl) _).drew
  have hs4 : W4.heap.size = w2.heap.size + 1 := by rw [← hW4, ← hW3]; simp
  have hK4 : Kept w W4 := hK12.then hO4 (fun i hi e => by omega)
  have hN4 : W4.heap[w.heap.size]? = some (.cells zeroReq 35 (0, 0)) := blk_only hN2 hO4 (by omega)
  have hL4 : IsLine W4 w2.heap.size { name := name, w := ws, behind := (tl b).drop n, used := 0, quiet := false } := by
    refine ⟨.slice a3 ws.length (cap2 - 1), ?_, ?_, ?_⟩
    · rw [← hW4]; exact blk_set (blk_set hb3 0 _) 1 _
    · refine ⟨_, _, rfl, by show ws.length ≤ _; omega, by omega, ?_⟩
      by_cases h1 : cap2 = 1
      · left; show ws = []; exact List.length_eq_zero_iff.1 (by omega)
      · right
        rw [if_neg h1] at ha3
        refine ⟨b2, 1, ha3.symm, fun j y hj => ?_⟩
        rw [World.cell?_of_block (w := w2) (hO4.block b2 hbl2 (by omega)), Nat.add_comm]
        exact hcell2 (j + 1) y (by simpa using hj)
    · intro k e
      have : k = b2 := by
        by_cases h1 : cap2 = 1
        · rw [if_pos h1] at ha3; subst ha3; simpa [Value.ownBlock] using e.symm
        · rw [if_neg h1] at ha3; subst ha3; simpa [Value.ownBlock] using e.symm
      omega
  clear hW4 hW3 hb3 hc3 k0 z0 k1 z1 k2 k3 k4 hcell2 hown hb2 hO4 hK2 hN1 hK1 hN2 ha3 hK12
  have hR := HR.out
  rw [HN.out] at hR
  have HK4 := Lib.hid hK4; have HN4 := Lib.hid hN4
  go_wp2_with fail
  refine (hR W4 w2.heap.size hL4 HK4.out (by omega)).mono ?_
  rintro e w5 ⟨v5, rfl, hreq, hu5, hO5⟩
  obtain ⟨vc, vf, rfl, hvc, hvf⟩ := hreq
  obtain ⟨a6, cap6, rfl⟩ := owns_slice hvc
  obtain ⟨a7, cap7, rfl⟩ := owns_slice hvf
  go_wp2_with fail
  obtain ⟨W6, hW6⟩ : ∃ W6, w5.alloc (.cells #[.int .i64 r.kind, .slice a6 r.cmds.length cap6, .bool r.quiet, .bool r.tokens, .string (bs r.reply), .string (bs r.arg), .int .i64 r.skip, .bool r.close, .string (bs r.meta_), .slice a7 r.flags.length cap7, .string (bs r.word)] 35) = W6 := ⟨_, rfl⟩
  have hs5 : w2.heap.size + 1 ≤ w5.heap.size := by have := hO5.size; omega
  have hN5 : w5.heap[w.heap.size]? = some (.cells zeroReq 35 (0, 0)) := blk_only HN4.out hO5 (by omega)
  have hN6 : W6.heap[w.heap.size]? = some (.cells zeroReq 35 (0, 0)) := by rw [← hW6]; exact blk_alloc hN5 _
  have hR6 : W6.heap[w5.heap.size]? = some (.cells #[.int .i64 r.kind, .slice a6 r.cmds.length cap6, .bool r.quiet, .bool r.tokens, .string (bs r.reply), .string (bs r.arg), .int .i64 r.skip, .bool r.close, .string (bs r.meta_), .slice a7 r.flags.length cap7, .string (bs r.word)] 35 (0, 0)) := by rw [← hW6]; exact blk_new _ _
  have hu6 : W6.cell? ⟨w2.heap.size, 3, none⟩ = some (.int .i64 used) := by rw [← hW6, World.cell?_alloc_past _ _ _ (by omega)]; exact hu5
  have k0 := blk_cell hN6 0
  have z0 := blk_free hN6 0
  have y0 := blk_cell hR6 0
  have k1 := blk_cell hN6 1
  have z1 := blk_free hN6 1
  have y1 := blk_cell hR6 1
  have k2 := blk_cell hN6 2
  have z2 := blk_free hN6 2
  have y2 := blk_cell hR6 2
  have k3 := blk_cell hN6 3
  have z3 := blk_free hN6 3
  have y3 := blk_cell hR6 3
  have k4 := blk_cell hN6 4
  have z4 := blk_free hN6 4
  have y4 := blk_cell hR6 4
  have k5 := blk_cell hN6 5
  have z5 := blk_free hN6 5
  have y5 := blk_cell hR6 5
  have k6 := blk_cell hN6 6
  have z6 := blk_free hN6 6
  have y6 := blk_cell hR6 6
  have k7 := blk_cell hN6 7
  have z7 := blk_free hN6 7
  have y7 := blk_cell hR6 7
  have k8 := blk_cell hN6 8
  have z8 := blk_free hN6 8
  have y8 := blk_cell hR6 8
  have k9 := blk_cell hN6 9
  have z9 := blk_free hN6 9
  have y9 := blk_cell hR6 9
  have k10 := blk_cell hN6 10
  have z10 := blk_free hN6 10
  have y10 := blk_cell hR6 10
  simp [zeroReq] at k0 k1 k2 k3 k4 k5 k6 k7 k8 k9 k10
  simp at y0 y1 y2 y3 y4 y5 y6 y7 y8 y9 y10
  rw [hW6]
  go_region
  have hW := blk_set11 hN6 rfl (.int .i64 r.kind) (.slice a6 r.cmds.length cap6) (.bool r.quiet) (.bool r.tokens) (.string (bs r.reply)) (.string (bs r.arg)) (.int .i64 r.skip) (.bool r.close) (.string (bs r.meta_)) (.slice a7 r.flags.length cap7) (.string (bs r.word))
  have hOW := only_set11 W6 w.heap.size (.int .i64 r.kind) (.slice a6 r.cmds.length cap6) (.bool r.quiet) (.bool r.tokens) (.string (bs r.reply)) (.string (bs r.arg)) (.int .i64 r.skip) (.bool r.close) (.string (bs r.meta_)) (.slice a7 r.flags.length cap7) (.string (bs r.word))
  have q0 := blk_cell (blk_drew hW) 0
  have q1 := blk_cell (blk_drew hW) 1
  have q2 := blk_cell (blk_drew hW) 2
  have q3 := blk_cell (blk_drew hW) 3
  have q4 := blk_cell (blk_drew hW) 4
  have q5 := blk_cell (blk_drew hW) 5
  have q6 := blk_cell (blk_drew hW) 6
  have q7 := blk_cell (blk_drew hW) 7
  have q8 := blk_cell (blk_drew hW) 8
  have q9 := blk_cell (blk_drew hW) 9
  have q10 := blk_cell (blk_drew hW) 10
  simp only [List.getElem?_toArray, List.getElem?_cons_zero, List.getElem?_cons_succ] at q0 q1 q2 q3 q4 q5 q6 q7 q8 q9 q10
  clear k0 k1 k2 k3 k4 k5 k6 k7 k8 k9 k10 y0 y1 y2 y3 y4 y5 y6 y7 y8 y9 y10 z0 z1 z2 z3 z4 z5 z6 z7 z8 z9 z10
  have hO6 : Only (fun k => k = w.heap.size) w5 W6 := by rw [← hW6]; exact (Only.refl _ w5).alloc _
  have hOF := hO6.trans hOW.drew
  have HOF := Lib.hid hOF; have HO5 := Lib.hid hO5; have HVC := Lib.hid hvc; have HVF := Lib.hid hvf
  clear hOF hO5 hvc hvf hW hOW hO6 hW6 hN6 hR6 hL4 hN5 hR hK4 hN4
  go_wp2_with fail
  refine bodyPost_ret (v := .tuple #[.agg #[.int .i64 r.kind, .slice a6 r.cmds.length cap6, .bool r.quiet, .bool r.tokens, .string (bs r.reply), .string (bs r.arg), .int .i64 r.skip, .bool r.close, .string (bs r.meta_), .slice a7 r.flags.length cap7, .string (bs r.word)], .int .i64 ((n : Int) + used)]) (by simp [results, Tryz.results30, go_sem, q0, q1, q2, q3, q4, q5, q6, q7, q8, q9, q10]) rfl ?_
  refine ⟨_, rfl, ⟨_, _, rfl, ?_, ?_⟩, ?_⟩
  · exact owns_base (owns_only HVC.out HOF.out (fun i hi e => by omega)) (by omega)
  · exact owns_base (owns_only HVF.out HOF.out (fun i hi e => by omega)) (by omega)
  · exact (HK4.out.then HO5.out (fun i hi e => by omega)).then HOF.out (fun i hi e => by omega)
end Go.Proofs.YtnlabbclmngphaaGreatDoor
