/- What words.Split does: a line's words, in new memory. Condition: the line is shorter than 2^32 bytes. -/
import Derived.Test.YtnlabbclmngphaaGreatDoorSplitA
import Derived.Maps.AppendAt
import Derived.RangeFuncBox
namespace Go.Proofs.YtnlabbclmngphaaGreatDoor
open Go.RowKit Go.Shelf
attribute [local go_sem] Oper.semAt_some

theorem Only.grown {w w' : World} {row : Option Nat} (h : w.grownBy w' row) : Only (fun k => some k = row) w w' := ⟨h.os, h.tape, h.output, h.size, h.block⟩
theorem Only.grows {S : Nat → Prop} {w w' : World} (h : Only S w w') : (∀ k, S k → False) → w.grownBy w' none := fun hS => ⟨h.os, h.tape, h.output, h.size, fun k hk _ => h.block k hk (fun s => hS k s)⟩
/-- An owned row stays where none of the blocks from its base on is turned. -/
theorem owns_only {S : Nat → Prop} {w w' : World} {base e size n : Nat} {v : Value} {xs : List Value} (h : w.ownsRow base e size v n xs) (k : Only S w w') (hS : ∀ i, base ≤ i → ¬ S i) : w'.ownsRow base e size v n xs := by
  refine ⟨h.1, ?_⟩
  rcases h.2 with hn | ⟨g, cap, cur, rfl, hb, hgg, rest⟩
  · exact .inl hn
  · exact .inr ⟨g, cap, cur, rfl, hb, blk_only hgg k (hS g hb), rest⟩
theorem owns_ne {S : Nat → Prop} {w w' : World} {base e size n : Nat} {v : Value} {xs : List Value} (h : w.ownsRow base e size v n xs) (k : Only S w w') (hS : ∀ i, v.ownBlock = some i → ¬ S i) : w'.ownsRow base e size v n xs := by
  refine ⟨h.1, ?_⟩
  rcases h.2 with hn | ⟨g, cap, cur, rfl, hb, hgg, rest⟩
  · exact .inl hn
  · exact .inr ⟨g, cap, cur, rfl, hb, blk_only hgg k (hS g rfl), rest⟩
theorem owns_slice {w : World} {base e size n : Nat} {v : Value} {xs : List Value} (h : w.ownsRow base e size v n xs) : ∃ a cap, v = .slice a n cap := by
  rcases h.2 with ⟨rfl, rfl⟩ | ⟨g, cap, cur, rfl, _⟩
  · exact ⟨_, _, rfl⟩
  · exact ⟨_, _, rfl⟩
theorem owns_base {w : World} {base base' e size n : Nat} {v : Value} {xs : List Value} (h : w.ownsRow base e size v n xs) (hb : base' ≤ base) : w.ownsRow base' e size v n xs := by
  refine ⟨h.1, ?_⟩
  rcases h.2 with hn | ⟨g, cap, cur, rfl, hb', rest⟩
  · exact .inl hn
  · exact .inr ⟨g, cap, cur, rfl, Nat.le_trans hb hb', rest⟩

/-- A list of texts as cells. -/
def strCells (l : List (List UInt8)) : List Value := l.map fun x => .string (bs x)
@[simp] theorem strCells_length (l : List (List UInt8)) : (strCells l).length = l.length := by simp [strCells]

theorem infoStr : (Tryz.prog.info? 9).map (fun i => (i.zero, i.size, i.bytes)) = some (some (.string ⟨#[]⟩), 1, 16) := by kernel_rfl
theorem wordsF_le : ∀ (n : Nat) (l : List UInt8), (wordsF n l).length ≤ n
  | 0, _ => by simp [wordsF]
  | n + 1, l => by
    unfold wordsF
    split
    · simp
    · simp; exact wordsF_le n _
theorem wordsOf_le (l : List UInt8) : (wordsOf l).length ≤ l.length := wordsF_le _ _

/-- What one round leaves that appends to a slice in a box. -/
theorem box_append {W w1 : World} {B base n m sz : Nat} {t e : TypeId} {v v' : Value} {xs ys : List Value} {o : Obj} (hv : Boxed W B t v) (hr : W.ownsRow base e sz v n xs) (hB : B < base)
    (hown' : w1.ownsRow base e sz v' m ys) (hgrow : (W.alloc o).grownBy w1 v.ownBlock) :
    Boxed w1 B t v ∧ Boxed (w1.setCell ⟨B, 0, none⟩ v') B t v' ∧ (w1.setCell ⟨B, 0, none⟩ v').ownsRow base e sz v' m ys ∧ Only (fun k => base ≤ k ∨ k = B) W (w1.setCell ⟨B, 0, none⟩ v') := by
  have hne : some B ≠ v.ownBlock := fun e' => by have := (hr.lt B e'.symm).1; omega
  have h1 : Boxed w1 B t v := (hv.alloc o).kept hgrow hne
  refine ⟨h1, h1.set v', owns_only hown' ((Only.refl (· = B) w1).setCell (.inr rfl) _) (fun i hi e' => by omega), ?_⟩
  have h2 : Only (fun k => base ≤ k ∨ k = B) W w1 :=
    (((Only.refl (fun k => base ≤ k ∨ k = B) W).alloc o)).then (Only.grown hgrow) (fun i hi e' => .inl (hr.lt i e'.symm).1)
  exact h2.setCell (.inr (.inr rfl)) _

theorem words_calls (l : List UInt8) (w : World) :
    Calls Tryz.prog 60 #[.string (bs l)] w fun e w' => e = .returned (.func (.func 86) #[] #[.pointer (some ⟨w.heap.size, 0, none⟩)]) ∧ w.alloc (.cells #[.string (bs l)] 9) = w' := by
  have hmf : ∀ (fn : Fn) (first cap : Array Value) (w : World), (Instr.makeFunc fn first cap).run Tryz.prog w = .ok (.func fn first cap) w := fun _ _ _ _ => rfl
  go_enter Tryz.func60, Tryz.ntmps60
  go_wp2
  go_ret
  exact ⟨rfl, rfl⟩

set_option maxRecDepth 100000 in
set_option maxHeartbeats 1000000 in
theorem split_calls (l : List UInt8) (w : World) (hlen : l.length ≤ 4294967281) :
    Calls Tryz.prog 43 #[.string (bs l)] w fun e w' => ∃ v, e = .returned v ∧ w'.ownsRow w.heap.size 9 1 v (wordsOf l).length (strCells (wordsOf l)) ∧ Kept w w' := by
  refine (callsIn_wide (n := 1)).1 ?_
  refine callsIn_of_wp_marks Tryz.func43 rfl trivial ?_ rfl
  simp only [Tryz.ntmps43, List.size_toArray, List.length_cons, List.length_nil, Nat.reduceAdd, Nat.reduceSub, Array.replicate_succ, Array.replicate_zero, List.push_toArray, List.append_toArray, List.nil_append, List.cons_append]
  gi_wp2_with (refine ⟨trivial, ?_⟩; gi_at_call 60; refine (callsIn_wide.2 (words_calls l _)).mono ?_; rintro e w' ⟨rfl, rfl⟩)
  obtain ⟨W2, hW2⟩ : ∃ W2, (w.alloc (.cells #[.slice none 0 0] 33)).alloc (.cells #[.string (bs l)] 9) = W2 := ⟨_, rfl⟩
  have hs2 : W2.heap.size = w.heap.size + 2 := by rw [← hW2]; simp
  have hK2 : Kept w W2 := by rw [← hW2]; exact ((Only.refl _ w).alloc _).alloc _
  have hb0 : Boxed W2 w.heap.size 33 (.slice none 0 0) := by rw [← hW2]; exact Boxed.alloc (Boxed.new w _ _) _
  have hb1 : W2.heap[w.heap.size + 1]? = some (.cells #[.string (bs l)] 9 (0, 0)) := by
    rw [← hW2]; have := blk_new (w.alloc (.cells #[.slice none 0 0] 33)) (.cells #[.string (bs l)] 9); rwa [World.size_alloc] at this
  rw [hW2]
  have hle := wordsOf_le l
  have HS2 := Lib.hid hs2; clear hs2
  obtain ⟨i0, hinf, hz0, hz1, hz2⟩ := info_parts infoStr
  refine range_all (gf := 86) (lb := #[.pointer (some ⟨w.heap.size + 1, 0, none⟩)]) rfl (enters_of Tryz.func86 (by kernel_rfl) rfl)
    (words_iter (w.heap.size + 1) l W2 (by omega) hb1) (fun k hk => by subst hk; rw [HS2.out]; omega) (fun k hk => by subst hk; rw [HS2.out]; omega) (fun _ => rfl)
    (fun i W => ∃ v, Boxed W w.heap.size 33 v ∧ W.ownsRow (w.heap.size + 4) 9 1 v i (strCells ((wordsOf l).take i)) ∧ Kept w W)
    ?hIT ?hIp ?h0
    (fun x => { tmps := #[.string (bs l), undef, .slice none 0 0, .pointer (some ⟨w.heap.size, 0, none⟩), .string (bs x), .string (bs l),
          .func (.func 86) #[] #[.pointer (some ⟨w.heap.size + 1, 0, none⟩)], .string (bs x), undef, undef, undef, undef, undef], defers := [] }) ?assign ?body ?done
  case hIT =>
    rintro i A B ⟨v, hv, hr, hk⟩ hAB
    exact ⟨v, blk_only hv hAB (by simp), owns_only hr hAB (fun i hi e => by omega), hk.then hAB (fun i hi e => by omega)⟩
  case hIp =>
    rintro i A k o ⟨v, hv, hr, hk⟩ hkk
    have h2 := HS2.out
    refine ⟨v, blk_put hv (by omega) o, owns_only hr ((Only.refl (· = k) A).put (.inr rfl) o) (fun i hi e => by omega), hk.put (.inl (by omega)) o⟩
  case h0 =>
    intro o o'
    exact ⟨_, (hb0.alloc _).alloc _, World.ownsRow_nil _ _ _ _, (hK2.alloc _).alloc _⟩
  case assign =>
    intro l' x W K hK
    gi_wp2
    exact hK
  case body =>
    rintro l' i hi W ⟨v, hv, hr, hk⟩ hlt
    rw [HS2.out] at hlt ⊢
    have hc := hv.cell
    have hf := hv.frozen
    have hnb : i + 1 ≤ 4294967281 := by omega
    clear hb0 hb1 hK2 hW2
    obtain ⟨x, hx⟩ : ∃ x, (wordsOf l)[i] = x := ⟨_, rfl⟩
    rw [hx]
    have HX := Lib.hid hx; clear hx
    gi_wp2_with (gi_at_builtin; refine wpListIn_append_own _ rfl _ _ 33 rfl (w.heap.size + 4) 9 i0 (.string ⟨#[]⟩) 1 16 Tryz.underlying33 hinf hz0 hz1 hz2 rfl (by decide) _ _ _ rfl (hr.alloc _) ⟨W.heap.size, 0, none⟩ 1 1 [.string (bs x)] rfl rfl (cell_one_new _ _ _) (by simp [Value.oneCell']) (by unfold maxLen; omega) (by omega) (by simp; omega) ?_; intro v' w1 hown' hgrow _; obtain ⟨g', cap', rfl⟩ := ownsRow_succ hown'; have hba := box_append hv hr (by omega) hown' hgrow; have hc1 := hba.1.cell; have hf1 := hba.1.frozen)
    obtain ⟨_, hv2, hr2, hO⟩ := hba
    refine ⟨hO.size, fun k hk => hO.block k (by omega) (by omega), _, hv2, ?_, hk.then hO (fun i hi e => by omega)⟩
    have e1 : (wordsOf l).take (i + 1) = (wordsOf l).take i ++ [x] := by rw [List.take_succ_eq_append_getElem hi, HX.out]
    rw [e1]
    simpa [strCells] using hr2
  case done =>
    rintro W ⟨v, hv, hr, hk⟩ hD
    have hc := hv.cell
    gi_wp2
    refine ⟨by simp, .inl ⟨_, _, rfl, run_takeDeferred hD, ?_⟩⟩
    have h2 := HS2.out
    rw [List.take_length] at hr
    exact ⟨_, results_tmp rfl _ _ _, v, rfl, owns_base (owns_only hr ((Only.refl (· = W2.heap.size) W).put (.inr rfl) _) (fun i hi e => by omega)) (by omega), hk.put (.inl (by omega)) _⟩
end Go.Proofs.YtnlabbclmngphaaGreatDoor
