/- A law: a range over a function whose rounds never leave, the iterator giving a known list; the iterator may write blocks of its own. No condition. -/
import Derived.RangeFuncLeaves
import Derived.RangeFuncSeq
import Derived.Shelf.Abstract
import Derived.Test.YtnlabbclmngphaaGreatDoorHeapA
namespace Go.Proofs.YtnlabbclmngphaaGreatDoor
open Go.RowKit

theorem Only.put {S : Nat → Prop} {a w : World} (h : Only S a w) {k : Nat} (hk : a.heap.size ≤ k ∨ S k) (o : Obj) : Only S a (w.putObj k o) :=
  ⟨h.os, h.tape, h.output, by simpa using h.size, fun i hi hS => by
    have hne : i ≠ k := fun e => by
      subst e
      rcases hk with hk | hk
      · omega
      · exact hS hk
    rw [World.putObj_heap_other hne]; exact h.block i hi hS⟩
theorem blk_put {w : World} {g k : Nat} {o : Obj} (h : w.heap[g]? = some o) (hne : g ≠ k) (x : Obj) : (w.putObj k x).heap[g]? = some o := by
  rw [World.putObj_heap_other hne]; exact h

/-- The iterator 'gf' with 'lb' gives the list xs: it writes blocks in T alone (beside new ones), and asks that a round leave the blocks in K as they were. -/
def SeqAll {α : Type} (P : Program) (gf : Nat) (lb : Array Value) (encs : α → Array Value) (T K : Nat → Prop) (xs : List α) (W0 : World) : Prop :=
  ∀ (l : Nat) (J : Nat → World → Prop) (W : World), Kept W0 W →
    (∀ i A B, J i A → Only T A B → J i B) →
    (∀ i (hi : i < xs.length) A m, J i A → YieldAt Fence.wide m P l (encs xs[i]) A fun e B => e = .returned (.bool true) ∧ J (i + 1) B ∧ A.heap.size ≤ B.heap.size ∧ ∀ k, K k → B.heap[k]? = A.heap[k]?) →
    J 0 W →
    Calls P gf (#[.func (.yield l) #[] #[]] ++ lb) W fun e W' => (∃ v, e = .returned v) ∧ J xs.length W'

theorem roundIn_any {n m : Nat} {P : Program} {l : Nat} {f : FuncId} {tmps : Array Value} {assign body : Code} {w : World} {R : Ending → World → Prop}
    (h : RoundIn Fence.wide n P l f tmps assign body w R) : RoundIn Fence.wide m P l f tmps assign body w R := ⟨h.1, fun c cs _ => h.2 c cs (room_wide _)⟩

/-- What a round's body must come to. -/
def rangeBody (D : Nat) (K : Nat → Prop) (I : Nat → World → Prop) (i : Nat) (W : World) : Exit → Act → World → Prop
  | .normal, _, W' => W.heap.size ≤ W'.heap.size ∧ (∀ k, K k ∨ k = D ∨ k = D + 1 → W'.heap[k]? = W.heap[k]?) ∧ I (i + 1) W'
  | _, _, _ => False

theorem range_all {α : Type} {P : Program} {gf : Nat} {lb : Array Value} {encs : α → Array Value} {T K : Nat → Prop} {xs : List α} {g : Operand} {ps : Array Tmp} {assign body : Code}
    {Q : Exit → Act → World → Prop} {a : Act} {w : World} (hg : a.eval g = .func (.func gf) #[] lb) (eg : ∀ args w, (callFunc gf args).run P w = .ok (.enter gf args) w)
    (hseq : SeqAll P gf lb encs T K xs w) (hT : ∀ k, T k → k < w.heap.size) (hK : ∀ k, K k → k < w.heap.size) (hps : ∀ x, (encs x).size = ps.size)
    (I : Nat → World → Prop) (hIT : ∀ i A B, I i A → Only T A B → I i B)
    (hIp : ∀ i A k o, I i A → (k = w.heap.size ∨ k = w.heap.size + 1) → I i (A.putObj k o))
    (h0 : ∀ o o', I 0 ((w.alloc o).alloc o')) (a₁ : α → Act)
    (hassign : ∀ (l : Nat) (x : α) (W : World) (K : Act → World → Prop), K (a₁ x) W →
      assign.wpIn (Fence.wide.inRound l) 1 P (Exit.then K (fun _ _ _ => False)) { tmps := (ps.zip (encs x)).foldl (fun t (p, v) => t.setIfInBounds p v) a.tmps, defers := [] } W)
    (hbody : ∀ (l i : Nat) (hi : i < xs.length) (W : World), I i W → w.heap.size + 1 < W.heap.size → body.wpIn (Fence.wide.inRound l) 1 P (rangeBody w.heap.size K I i W) (a₁ xs[i]) W)
    (hdone : ∀ W : World, I xs.length W → W.heap[w.heap.size]? = some (.deferred (some [])) → Q .normal { a with defers := { target := .collected w.heap.size, args := #[] } :: a.defers } W) :
    (Code.rangeFunc g ps assign body).wpIn Fence.wide 1 P Q a w := by
  refine wpIn_rangeFunc ?_
  intro fn _
  let rec' : LoopState → Option Code → Loop := fun st pe => { state := st, pending := pe, fn, tmps := a.tmps, params := ps, assign, body, defers := w.heap.size }
  let W1 := (w.alloc (.deferred (some []))).alloc (.loop (rec' .ready none))
  have hL1 : W1.heap[w.heap.size + 1]? = some (.loop (rec' .ready none)) := by
    have := World.alloc_heap_new (w.alloc (.deferred (some []))) (.loop (rec' .ready none)); rwa [World.size_alloc] at this
  have hK1 : W1.heap[w.heap.size]? = some (.deferred (some [])) := (Below.heap_alloc _ _ _ (by simp)).trans (World.alloc_heap_new w _)
  have hb1 : Kept w W1 := ((Only.refl _ w).alloc _).alloc _
  refine ⟨w.heap.size + 1, [{ target := .collected w.heap.size, args := #[] }], W1, { target := .fn (.func gf) lb, args := #[.func (.yield (w.heap.size + 1)) #[] #[]] }, W1, gf,
    #[.func (.yield (w.heap.size + 1)) #[] #[]] ++ lb, W1, run_enterLoop_outer _ _ _ _ _, ?_, fun _ _ => trivial, ?_, fun _ => Nat.le_refl _, ?_⟩
  · simp only [resolve, hg]
    simp [go_sem]
  · simp [invoke, go_sem, eg]
  refine callsIn_wide.2 ?_
  have hlift : ∀ k, T k → k < w.heap.size := hT
  refine (hseq (w.heap.size + 1) (fun i W => I i W ∧ W.heap[w.heap.size + 1]? = some (.loop (rec' .ready none)) ∧ W.heap[w.heap.size]? = some (.deferred (some []))) W1 hb1 ?_ ?_ ⟨h0 _ _, hL1, hK1⟩).mono ?_
  · rintro i A B ⟨hi, hl, hd⟩ hAB
    exact ⟨hIT i A B hi hAB, blk_only hl hAB (fun t => by have := hlift _ t; omega), blk_only hd hAB (fun t => by have := hlift _ t; omega)⟩
  · rintro i hi A m ⟨hIi, hl, hd⟩
    have hlt : w.heap.size + 1 < A.heap.size := blk_lt hl
    refine ⟨fn, _, assign, body, run_yield (P := P) (args := encs xs[i]) hl (hps _), roundIn_any (roundIn_of_wpIn trivial (hassign _ xs[i] A _ ⟨_, run_beginRound hl rfl, ?_⟩))⟩
    have hl2 : (A.putObj (w.heap.size + 1) (.loop (rec' .busy none))).heap[w.heap.size + 1]? = some (.loop (rec' .busy none)) := World.putObj_heap_same hlt
    have hd2 : (A.putObj (w.heap.size + 1) (.loop (rec' .busy none))).heap[w.heap.size]? = some (.deferred (some [])) := blk_put hd (by omega) _
    refine wpIn_mono (hbody _ i hi _ (hIp i A _ _ hIi (.inr rfl)) (by simpa using hlt)) ?_
    intro e a3 W3 hp
    cases e with
    | normal =>
      obtain ⟨hsz, hkeep, hI3⟩ := hp
      have hl3 := (hkeep (w.heap.size + 1) (.inr (.inr rfl))).trans hl2
      have hd3 := (hkeep w.heap.size (.inr (.inl rfl))).trans hd2
      refine ⟨_, _, run_endRound none hl3, rfl, ⟨hIp _ _ _ _ hI3 (.inr rfl), World.putObj_heap_same (blk_lt hl3), blk_put hd3 (by omega) _⟩, by simpa using hsz, fun k hk => ?_⟩
      have := hK k hk
      rw [World.putObj_heap_other (by omega), hkeep k (.inl hk), World.putObj_heap_other (by omega)]
    | ret => exact hp.elim
    | exit id => exact hp.elim
    | goto t => exact hp.elim
    | panic c => exact hp.elim
    | outgrown => exact hp.elim
  · rintro e W2 ⟨⟨v, rfl⟩, hi, hl, hd⟩
    exact ⟨none, _, run_endLoop hl (by simp [rec']), hdone _ (hIp _ _ _ _ hi (.inr rfl)) (blk_put hd (by omega) _)⟩
end Go.Proofs.YtnlabbclmngphaaGreatDoor
