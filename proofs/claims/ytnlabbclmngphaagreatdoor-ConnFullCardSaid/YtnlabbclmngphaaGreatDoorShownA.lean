/- What shown does: the small case that must work. No condition. -/
import Derived.Test.YtnlabbclmngphaaGreatDoorConnC
namespace Go.Proofs.YtnlabbclmngphaaGreatDoor
open Go.RowKit
set_option linter.unusedSimpArgs false
set_option linter.unusedVariables false
attribute [local go_sem ↓] run_min2 run_max2

theorem tl_append (a b : ByteArray) : tl (a ++ b) = tl a ++ tl b := by simp [tl]
def tGet : List UInt8 := [103, 101, 116, 32, 97]
def tAll : List UInt8 := [103, 101, 116, 32, 97, 10, 109, 110, 10]
def tMn : List UInt8 := [109, 110, 10]
def rGet : Req := { kind := 1, cmds := [{ op := 1, key := [97], recache := -1 }] }
def rMn : Req := { kind := 7, meta_ := [109, 110] }

theorem first_none (w : World) : Calls Tryz.prog 22 #[.string (bs tGet)] w fun e w' => ∃ v, e = .returned (.tuple #[v, .int .i64 0]) ∧ IsReq w' w.heap.size {} v ∧ Kept w w' := by
  refine cparse_text w (bs tGet) (by decide) {} 0 (by decide) fun w0 _ => ?_
  refine (parse_none w0 (bs tGet) (by decide) (by decide)).mono ?_
  rintro e w' ⟨rfl, hk⟩
  exact ⟨_, rfl, IsReq.bare w' _ {} rfl rfl, hk⟩

theorem first_get (w : World) : Calls Tryz.prog 22 #[.string (bs tAll)] w fun e w' => ∃ v, e = .returned (.tuple #[v, .int .i64 6]) ∧ IsReq w' w.heap.size rGet v ∧ Kept w w' := by
  refine cparse_text w (bs tAll) (by decide) rGet 6 (by decide) fun w0 _ => ?_
  refine (parse_words w0 (bs tAll) (by decide) [103, 101, 116] [[97]] rGet false 0 (by decide) (by decide) (by decide) rfl ?_).mono ?_
  · intro w1 g hl hk hg
    have hc : w1.cell? ⟨g, 3, none⟩ = some (.int .i64 0) := by
      obtain ⟨v, hb, _⟩ := hl
      rw [blk_cell hb]; rfl
    refine (read_get_ok w1 g _ rGet hl (.inl rfl) fun w2 hk2 hl2 => ?_).mono ?_
    · refine (get_plain w2 g _ hl2 (by decide) (by decide) (by decide) (by decide) (by decide) (by decide)).mono ?_
      rintro e w3 ⟨v, rfl, hr, hk3⟩
      exact ⟨v, rfl, hr, hk3⟩
    · rintro e w3 ⟨v, rfl, hr, hk3⟩
      exact ⟨v, rfl, hr, cell_only hc hk3 id, hk3.mono fun _ _ h => h.elim⟩
  · rintro e w' ⟨v, rfl, hr, hk⟩
    exact ⟨v, rfl, hr, hk⟩

theorem first_mn (w : World) : Calls Tryz.prog 22 #[.string (bs tMn)] w fun e w' => ∃ v, e = .returned (.tuple #[v, .int .i64 3]) ∧ IsReq w' w.heap.size rMn v ∧ Kept w w' := by
  refine cparse_meta w (bs tMn) (by decide) rMn 3 (by decide) fun w0 _ => ?_
  refine (mparse_mn w0 (bs tMn) (by decide) (by decide) (by decide)).mono ?_
  rintro e w' ⟨rfl, hk⟩
  exact ⟨_, rfl, IsReq.bare w' _ rMn rfl rfl, hk⟩

/-- What Next leaves, of a connection in the middle. -/
theorem next_first (w : World) (g : Nat) (h : w.heap[g]? = some (connObj (bs tGet) ⟨#[]⟩ 0 false)) :
    Calls Tryz.prog 12 #[.pointer (some ⟨g, 0, none⟩)] w fun e w' => e = .returned (.tuple #[.agg #[.int .i64 0, .slice none 0 0, .bool false, .bool false, .string ⟨#[]⟩, .string ⟨#[]⟩, .int .i64 0, .bool false, .string ⟨#[]⟩, .slice none 0 0, .string ⟨#[]⟩], .bool false]) ∧ Kept w w' :=
  next_none w g (bs tGet) ⟨#[]⟩ 0 false h rfl (by decide) {} 0 rfl fun w0 _ => first_none w0
theorem next_get (w : World) (g : Nat) (h : w.heap[g]? = some (connObj (bs tAll) ⟨#[]⟩ 0 false)) :
    Calls Tryz.prog 12 #[.pointer (some ⟨g, 0, none⟩)] w fun e w' => ∃ v, e = .returned (.tuple #[v, .bool true]) ∧ IsReq w' w.heap.size rGet v ∧ w'.heap[g]? = some (connObj (bs tMn) ⟨#[]⟩ 0 false) ∧ Only (· = g) w w' :=
  next_some w g (bs tAll) ⟨#[]⟩ 0 false h rfl (by decide) (by decide) rGet 6 0 (by decide) (by decide) (by decide) (by decide) (by decide) rfl fun w0 _ => first_get w0
theorem next_mn (w : World) (g : Nat) (h : w.heap[g]? = some (connObj (bs tMn) ⟨#[]⟩ 0 false)) :
    Calls Tryz.prog 12 #[.pointer (some ⟨g, 0, none⟩)] w fun e w' => ∃ v, e = .returned (.tuple #[v, .bool true]) ∧ IsReq w' w.heap.size rMn v ∧ w'.heap[g]? = some (connObj ⟨#[]⟩ ⟨#[]⟩ 0 false) ∧ Only (· = g) w w' :=
  next_some w g (bs tMn) ⟨#[]⟩ 0 false h rfl (by decide) (by decide) rMn 3 0 (by decide) (by decide) (by decide) (by decide) (by decide) rfl fun w0 _ => first_mn w0

theorem feed_one (w : World) (g : Nat) (h : w.heap[g]? = some (connObj ⟨#[]⟩ ⟨#[]⟩ 0 false)) :
    Calls Tryz.prog 10 #[.pointer (some ⟨g, 0, none⟩), .string ⟨#[103, 101, 116, 32, 97]⟩] w fun e w' => e = .returned (.int .i64 5) ∧ w'.heap[g]? = some (connObj (bs tGet) ⟨#[]⟩ 0 false) ∧ Only (· = g) w w' :=
  conn_feed w g ⟨#[]⟩ ⟨#[]⟩ 0 ⟨#[103, 101, 116, 32, 97]⟩ h (by decide) (by decide) (by decide) (by decide)
theorem feed_two (w : World) (g : Nat) (h : w.heap[g]? = some (connObj (bs tGet) ⟨#[]⟩ 0 false)) :
    Calls Tryz.prog 10 #[.pointer (some ⟨g, 0, none⟩), .string ⟨#[10, 109, 110, 10]⟩] w fun e w' => e = .returned (.int .i64 4) ∧ w'.heap[g]? = some (connObj (bs tAll) ⟨#[]⟩ 0 false) ∧ Only (· = g) w w' :=
  conn_feed w g (bs tGet) ⟨#[]⟩ 0 ⟨#[10, 109, 110, 10]⟩ h (by decide) (by decide) (by decide) (by decide)
theorem put_one (w : World) (g : Nat) (h : w.heap[g]? = some (connObj ⟨#[]⟩ ⟨#[]⟩ 0 false)) :
    Calls Tryz.prog 15 #[.pointer (some ⟨g, 0, none⟩), .string ⟨#[97, 98, 99]⟩] w fun e w' => e = .returned (.tuple #[]) ∧ w'.heap[g]? = some (connObj ⟨#[]⟩ ⟨#[97, 98, 99]⟩ 0 false) ∧ Only (· = g) w w' :=
  conn_put w g ⟨#[]⟩ ⟨#[]⟩ 0 false ⟨#[97, 98, 99]⟩ h (by decide)
theorem write_one (w : World) (g : Nat) (h : w.heap[g]? = some (connObj ⟨#[]⟩ ⟨#[97, 98, 99]⟩ 0 false)) :
    Calls Tryz.prog 16 #[.pointer (some ⟨g, 0, none⟩), .int .i64 2] w fun e w' => e = .returned (.string ⟨#[97, 98]⟩) ∧ w'.heap[g]? = some (connObj ⟨#[]⟩ ⟨#[99]⟩ 0 false) ∧ Only (· = g) w w' :=
  conn_write w g ⟨#[]⟩ ⟨#[97, 98, 99]⟩ 0 false 2 h
theorem write_two (w : World) (g : Nat) (h : w.heap[g]? = some (connObj ⟨#[]⟩ ⟨#[99]⟩ 0 false)) :
    Calls Tryz.prog 16 #[.pointer (some ⟨g, 0, none⟩), .int .i64 9] w fun e w' => e = .returned (.string ⟨#[99]⟩) ∧ w'.heap[g]? = some (connObj ⟨#[]⟩ ⟨#[]⟩ 0 false) ∧ Only (· = g) w w' :=
  conn_write w g ⟨#[]⟩ ⟨#[99]⟩ 0 false 9 h
end Go.Proofs.YtnlabbclmngphaaGreatDoor
