/- What nums.digits, nums.Parse and nums.Signed do. Conditions: the text is shorter than 2^32 bytes; the library's range error lies where the program laid it. -/
import Derived.Test.YtnlabbclmngphaaGreatDoorSplitB
import Derived.Shelf.Strings.SlTrimAscii
import Derived.Lib.SlTrimSet
import Derived.Lib.ParseIntBCases
namespace Go.Proofs.YtnlabbclmngphaaGreatDoor
open Go.RowKit
set_option linter.unusedSimpArgs false

/-- The library's variable ErrRange holds an error. -/
def Gl (w : World) : Prop := ∃ te pe, w.cell? ⟨4, 0, none⟩ = some (.iface te pe)
theorem Gl.only {S : Nat → Prop} {w w' : World} (h : Gl w) (k : Only S w w') (hS : ¬ S 4) : Gl w' := by
  obtain ⟨te, pe, hc⟩ := h
  refine ⟨te, pe, (World.cell?_of_block (k.block _ ?_ hS)).trans hc⟩
  exact World.block_lt_of_cell? w _ hc
theorem Gl.kept {w w' : World} (h : Gl w) (k : Kept w w') : Gl w' := h.only k id

/-- Is a byte a digit? -/
def isDig (c : UInt8) : Bool := decide (48 ≤ c.toNat) && decide (c.toNat ≤ 57)
/-- nums.digits. -/
def digitsOf (l : List UInt8) (most : Int) : Bool := decide (l ≠ []) && decide ((l.length : Int) ≤ most) && l.all isDig
theorem mem_digits (c : UInt8) : ([48, 49, 50, 51, 52, 53, 54, 55, 56, 57] : List UInt8).contains c = isDig c := by
  have h : ∀ n : Fin 256, ([48, 49, 50, 51, 52, 53, 54, 55, 56, 57] : List UInt8).contains (UInt8.ofNat n.val) = isDig (UInt8.ofNat n.val) := by decide +kernel
  have := h ⟨c.toNat, c.toNat_lt⟩
  simpa using this
theorem dropWhile_nil {α : Type} (p : α → Bool) (l : List α) : l.dropWhile p = [] ↔ l.all p = true := by
  induction l with
  | nil => simp
  | cons a l ih =>
    simp only [List.dropWhile_cons, List.all_cons]
    by_cases h : p a = true
    · simp [h, ih]
    · simp [h]
theorem all_reverse' {α : Type} (p : α → Bool) (l : List α) : l.reverse.all p = l.all p := by simp
theorem trimS_nil (l : List UInt8) : Lib.trimS l [48, 49, 50, 51, 52, 53, 54, 55, 56, 57] = [] ↔ l.all isDig = true := by
  have hp : (fun c => ([48, 49, 50, 51, 52, 53, 54, 55, 56, 57] : List UInt8).contains c) = isDig := by funext c; exact mem_digits c
  unfold Lib.trimS Lib.trimLeftS Lib.trimRightS
  rw [hp, dropWhile_nil]
  constructor
  · intro h
    rw [all_reverse'] at h
    by_cases hn : l.reverse.dropWhile isDig = []
    · rw [dropWhile_nil, all_reverse'] at hn; exact hn
    · exfalso
      have hall : ∀ (m : List UInt8), m.dropWhile isDig ≠ [] → (m.dropWhile isDig).all isDig = false := by
        intro m
        induction m with
        | nil => intro h; exact absurd rfl h
        | cons a m ih =>
          intro h
          rw [List.dropWhile_cons] at h ⊢
          by_cases ha : isDig a = true
          · rw [if_pos ha] at h ⊢; exact ih h
          · rw [if_neg ha]; simp [ha]
      rw [hall _ hn] at h; cases h
  · intro h
    have : l.reverse.dropWhile isDig = [] := by rw [dropWhile_nil, all_reverse']; exact h
    rw [this]; rfl

theorem infoSet : (Tryz.prog.info? 69).map (fun i => (i.zero, i.size)) = some (some (.agg (Array.replicate 256 (.bool false))), 256) := by kernel_rfl
theorem trim_digits (l : List UInt8) (w : World) (hl : l.length < 4294967281) :
    Calls Tryz.prog 115 #[.string (bs l), .string ⟨#[48, 49, 50, 51, 52, 53, 54, 55, 56, 57]⟩] w fun e w' =>
      e = .returned (.string (bs (Lib.trimS l [48, 49, 50, 51, 52, 53, 54, 55, 56, 57]))) ∧ Kept w w' :=
  (Any.strings_Trim_laid Tryz.lays160 infoSet (bs l) ⟨#[48, 49, 50, 51, 52, 53, 54, 55, 56, 57]⟩ w (by rw [size_bs]; omega) (by decide) (ascii_of_all (by decide))).mono
    fun _ _ ⟨he, hw⟩ => ⟨he, Only.of_below hw⟩

set_option maxHeartbeats 400000 in
theorem digits_calls (l : List UInt8) (most : Int) (w : World) (hl : l.length < 4294967281) :
    Calls Tryz.prog 87 #[.string (bs l), .int .i64 most] w fun e w' => e = .returned (.bool (digitsOf l most)) ∧ Kept w w' := by
  by_cases h0 : l = []
  · subst h0
    obtain ⟨hE, hE'⟩ := empty_yes (s := bs []) rfl
    go_enter Tryz.func87, Tryz.ntmps87
    go_wp2_with fail
    go_ret
    exact ⟨by simp [digitsOf], Only.refl _ _⟩
  · obtain ⟨hE, hE'⟩ := empty_no (s := bs l) (by simpa using h0)
    by_cases h1 : (l.length : Int) ≤ most
    · have hr : digitsOf l most = l.all isDig := by simp [digitsOf, h0, h1]
      have HR := Lib.hid hr; clear hr h0
      go_enter Tryz.func87, Tryz.ntmps87
      go_wp2_with fail
      refine (trim_digits l _ hl).mono ?_
      rintro e w' ⟨rfl, hk⟩
      go_wp2_with fail
      go_ret
      refine ⟨?_, hk⟩
      rw [HR.out]
      show Ending.returned (.bool _) = _
      congr 2
      rw [toList_tl, tl_bs, Bool.eq_iff_iff, List.isEmpty_iff]
      exact trimS_nil l
    · have hr : digitsOf l most = false := by simp [digitsOf, h1]
      have HR := Lib.hid hr; clear hr h0
      go_enter Tryz.func87, Tryz.ntmps87
      go_wp2_with fail
      go_ret
      exact ⟨by rw [HR.out]; rfl, Only.refl _ _⟩

/-- nums.Parse. -/
def pnum (l : List UInt8) : Option Nat := if digitsOf l 20 = true then (match Lib.parseUintB 64 l with | .ok u => some u | _ => none) else none
/-- nums.Signed. -/
def pint (l : List UInt8) : Option Int := if digitsOf (Lib.trimPrefix l [45]) 19 = true then (match Lib.parseIntB 64 l with | .ok v => some v | _ => none) else none

theorem bytesWorld_kept (w : World) (t : ByteArray) : Kept w (Lib.bytesWorld w 5 t) :=
  ((Only.refl _ w).drew.alloc _).freeze (.inl (Nat.le_refl _)) 1
/-- A parse that ends in a number, or out of range. -/
def plainEnd {α : Type} : Lib.NumEnd α → Bool
  | .ok _ => true
  | .range => true
  | _ => false
theorem parseUintM_dig (M : Nat) : ∀ (l : List UInt8) (acc : Nat), l.all isDig = true → plainEnd (Lib.parseUintM M acc l) = true
  | [], acc, _ => by simp [Lib.parseUintM, plainEnd]
  | c :: r, acc, h => by
    simp only [List.all_cons, Bool.and_eq_true] at h
    have hc := h.1
    have ih := fun a => parseUintM_dig M r a h.2
    simp only [isDig, Bool.and_eq_true, decide_eq_true_eq] at hc
    unfold Lib.parseUintM
    rw [if_pos hc]
    split
    · simp [plainEnd]
    · split
      · simp [plainEnd]
      · exact ih _
theorem parseUintB_dig {B : Nat} {l : List UInt8} (h0 : l ≠ []) (h : l.all isDig = true) : plainEnd (Lib.parseUintB B l) = true := by
  unfold Lib.parseUintB
  rw [if_neg h0]
  exact parseUintM_dig _ l 0 h
theorem parseIntB_dig {l : List UInt8} (h0 : Lib.trimPrefix l [45] ≠ []) (h : (Lib.trimPrefix l [45]).all isDig = true) : plainEnd (Lib.parseIntB 64 l) = true := by
  cases l with
  | nil => simp [Lib.trimPrefix, Lib.hasPrefix] at h0
  | cons c r =>
    by_cases hc : c = 45
    · subst hc
      have e : Lib.trimPrefix (45 :: r) [45] = r := by simp [Lib.trimPrefix, Lib.hasPrefix]
      rw [e] at h0 h
      rw [Lib.parseIntB_minus]
      have := parseUintB_dig (B := 64) h0 h
      cases h' : Lib.parseUintB 64 r with
      | range => simp [Lib.signedC, plainEnd]
      | ok u => simp only [Lib.signedC]; split <;> simp [plainEnd]
      | _ => rw [h'] at this; simp [plainEnd] at this
    · have hne : ¬ (45 : UInt8) = c := fun e => hc e.symm
      have e : Lib.trimPrefix (c :: r) [45] = c :: r := by simp [Lib.trimPrefix, Lib.hasPrefix, hne]
      rw [e] at h0 h
      have hd := h
      simp only [List.all_cons, Bool.and_eq_true, isDig, decide_eq_true_eq] at hd
      rw [Lib.parseIntB_plain 64 c r (by omega) (by omega)]
      have := parseUintB_dig (B := 64) h0 h
      cases h' : Lib.parseUintB 64 (c :: r) with
      | range => simp [Lib.signlessC, plainEnd]
      | ok u => simp only [Lib.signlessC]; split <;> simp [plainEnd]
      | _ => rw [h'] at this; simp [plainEnd] at this
theorem parseUint_yes (l : List UInt8) (u : Nat) (w : World) (hl : l.length < 4294967281) (h : Lib.parseUintB 64 l = .ok u) :
    Calls Tryz.prog 88 #[.string (bs l), .int .i64 10, .int .i64 64] w fun e w' => e = .returned (.tuple #[.int .u64 u, .nilIface]) ∧ Kept w w' := by
  refine (Tryz.strconv_ParseUint_10_at64_ok (bs l) (by rw [size_bs]; omega) u h w).mono ?_
  rintro e w' ⟨rfl, hw⟩
  refine ⟨rfl, ?_⟩
  rcases hw with rfl | rfl
  · exact Only.refl _ _
  · exact bytesWorld_kept _ _
theorem parseUint_no (l : List UInt8) (w : World) (hl : l.length < 4294967281) (hg : Gl w) (h : Lib.parseUintB 64 l = .range) :
    Calls Tryz.prog 88 #[.string (bs l), .int .i64 10, .int .i64 64] w fun e w' => ∃ u t p, e = .returned (.tuple #[.int .u64 u, .iface t (.pointer (some p))]) ∧ Kept w w' := by
  obtain ⟨te, pe, hc⟩ := hg
  refine (Tryz.strconv_ParseUint_10_at64_range (bs l) (by rw [size_bs]; omega) h _ w hc (.inr ⟨te, pe, rfl⟩)).mono ?_
  rintro e w' ⟨N, rfl, _, _, hb⟩
  exact ⟨_, _, _, rfl, Only.of_below hb⟩
theorem parseInt_yes (l : List UInt8) (u : Int) (w : World) (hl : l.length < 4294967281) (h : Lib.parseIntB 64 l = .ok u) :
    Calls Tryz.prog 139 #[.string (bs l), .int .i64 10, .int .i64 64] w fun e w' => e = .returned (.tuple #[.int .i64 u, .nilIface]) ∧ Kept w w' := by
  refine (Tryz.strconv_ParseInt_10_at64_ok (bs l) (by rw [size_bs]; omega) u h w).mono ?_
  rintro e w' ⟨rfl, hw⟩
  refine ⟨rfl, ?_⟩
  rcases hw with rfl | ⟨t, rfl⟩
  · exact Only.refl _ _
  · exact bytesWorld_kept _ _
theorem parseInt_no (l : List UInt8) (w : World) (hl : l.length < 4294967281) (hg : Gl w) (h : Lib.parseIntB 64 l = .range) :
    Calls Tryz.prog 139 #[.string (bs l), .int .i64 10, .int .i64 64] w fun e w' => ∃ u t p, e = .returned (.tuple #[.int .i64 u, .iface t (.pointer (some p))]) ∧ Kept w w' := by
  obtain ⟨te, pe, hc⟩ := hg
  refine (Tryz.strconv_ParseInt_10_at64_range (bs l) (by rw [size_bs]; omega) h _ w hc (.inr ⟨te, pe, rfl⟩)).mono ?_
  rintro e w' ⟨N, rfl, _, _, hb⟩
  exact ⟨_, _, _, rfl, Only.of_below hb⟩

set_option maxHeartbeats 400000 in
theorem nparse_calls (l : List UInt8) (w : World) (hl : l.length < 4294967281) (hg : Gl w) :
    Calls Tryz.prog 61 #[.string (bs l)] w fun e w' => e = .returned (.tuple #[.int .u64 ((pnum l).getD 0 : Nat), .bool (pnum l).isSome]) ∧ Kept w w' := by
  cases hd : digitsOf l 20 with
  | false =>
    have hr : pnum l = none := by simp [pnum, hd]
    have HR := Lib.hid hr; clear hr
    go_enter Tryz.func61, Tryz.ntmps61
    go_wp2_with fail
    refine (digits_calls l 20 _ hl).mono ?_
    rintro e w' ⟨rfl, hk⟩
    go_wp2_with fail
    go_ret2
    exact ⟨by rw [HR.out]; rfl, hk⟩
  | true =>
    have hd' := hd
    simp only [digitsOf, Bool.and_eq_true, decide_eq_true_eq] at hd'
    cases hp : Lib.parseUintB 64 l with
    | ok u =>
      have hr : pnum l = some u := by simp [pnum, hd, hp]
      have HR := Lib.hid hr; have HP := Lib.hid hp; clear hr hp hd'
      go_enter Tryz.func61, Tryz.ntmps61
      go_wp2_with fail
      refine (digits_calls l 20 _ hl).mono ?_
      rintro e w' ⟨rfl, hk⟩
      go_wp2_with fail
      refine (parseUint_yes l u _ hl HP.out).mono ?_
      rintro e w2 ⟨rfl, hk2⟩
      go_wp2_with fail
      go_ret2
      exact ⟨by rw [HR.out]; rfl, hk.trans hk2⟩
    | range =>
      have hr : pnum l = none := by simp [pnum, hd, hp]
      have HR := Lib.hid hr; have HP := Lib.hid hp; clear hr hp hd'
      go_enter Tryz.func61, Tryz.ntmps61
      go_wp2_with fail
      refine (digits_calls l 20 _ hl).mono ?_
      rintro e w' ⟨rfl, hk⟩
      go_wp2_with fail
      refine (parseUint_no l _ hl (hg.kept hk) HP.out).mono ?_
      rintro e w2 ⟨u, t, p, rfl, hk2⟩
      go_wp2_with fail
      go_ret2
      exact ⟨by rw [HR.out]; rfl, hk.trans hk2⟩
    | _ => have hx := parseUintB_dig (B := 64) hd'.1.1 hd'.2; rw [hp] at hx; simp [plainEnd] at hx
theorem trimPrefix_le (l p : List UInt8) : (Lib.trimPrefix l p).length ≤ l.length := by
  unfold Lib.trimPrefix; split
  · simp
  · exact Nat.le_refl _
theorem trimMinus (l : List UInt8) (w : World) :
    Calls Tryz.prog 138 #[.string (bs l), .string ⟨#[45]⟩] w fun e w' => e = .returned (.string (bs (Lib.trimPrefix l [45]))) ∧ w = w' :=
  (Tryz.strings_TrimPrefix (bs l) ⟨#[45]⟩ w).mono fun _ _ ⟨he, hw⟩ => ⟨he, hw.symm⟩
set_option maxHeartbeats 400000 in
theorem nsigned_calls (l : List UInt8) (w : World) (hl : l.length < 4294967281) (hg : Gl w) :
    Calls Tryz.prog 126 #[.string (bs l)] w fun e w' => e = .returned (.tuple #[.int .i64 ((pint l).getD 0), .bool (pint l).isSome]) ∧ Kept w w' := by
  have hl2 : (Lib.trimPrefix l [45]).length < 4294967281 := by have := trimPrefix_le l [45]; omega
  cases hd : digitsOf (Lib.trimPrefix l [45]) 19 with
  | false =>
    have hr : pint l = none := by simp [pint, hd]
    have HR := Lib.hid hr; clear hr
    go_enter Tryz.func126, Tryz.ntmps126
    go_wp2_with fail
    refine (trimMinus l _).mono ?_
    rintro e w' ⟨rfl, rfl⟩
    go_wp2_with fail
    refine (digits_calls (Lib.trimPrefix l [45]) 19 _ hl2).mono ?_
    rintro e w' ⟨rfl, hk⟩
    go_wp2_with fail
    go_ret2
    exact ⟨by rw [HR.out]; rfl, hk⟩
  | true =>
    have hd' := hd
    simp only [digitsOf, Bool.and_eq_true, decide_eq_true_eq] at hd'
    cases hp : Lib.parseIntB 64 l with
    | ok u =>
      have hr : pint l = some u := by simp [pint, hd, hp]
      have HR := Lib.hid hr; have HP := Lib.hid hp; clear hr hp hd'
      go_enter Tryz.func126, Tryz.ntmps126
      go_wp2_with fail
      refine (trimMinus l _).mono ?_
      rintro e w' ⟨rfl, rfl⟩
      go_wp2_with fail
      refine (digits_calls (Lib.trimPrefix l [45]) 19 _ hl2).mono ?_
      rintro e w' ⟨rfl, hk⟩
      go_wp2_with fail
      refine (parseInt_yes l u _ hl HP.out).mono ?_
      rintro e w2 ⟨rfl, hk2⟩
      go_wp2_with fail
      go_ret2
      exact ⟨by rw [HR.out]; rfl, hk.trans hk2⟩
    | range =>
      have hr : pint l = none := by simp [pint, hd, hp]
      have HR := Lib.hid hr; have HP := Lib.hid hp; clear hr hp hd'
      go_enter Tryz.func126, Tryz.ntmps126
      go_wp2_with fail
      refine (trimMinus l _).mono ?_
      rintro e w' ⟨rfl, rfl⟩
      go_wp2_with fail
      refine (digits_calls (Lib.trimPrefix l [45]) 19 _ hl2).mono ?_
      rintro e w' ⟨rfl, hk⟩
      go_wp2_with fail
      refine (parseInt_no l _ hl (hg.kept hk) HP.out).mono ?_
      rintro e w2 ⟨u, t, p, rfl, hk2⟩
      go_wp2_with fail
      go_ret2
      exact ⟨by rw [HR.out]; rfl, hk.trans hk2⟩

    | _ => have hx := parseIntB_dig hd'.1.1 hd'.2; rw [hp] at hx; simp [plainEnd] at hx
/-- Seconds that may be: from -2^40 to 2^40; what stands there beside 'no' is what was read. -/
def psec (l : List UInt8) : Int × Bool :=
  ((pint l).getD 0, (pint l).isSome && (decide (-1099511627776 ≤ (pint l).getD 0) && decide ((pint l).getD 0 ≤ 1099511627776)))
set_option maxHeartbeats 400000 in
theorem tseconds_calls (l : List UInt8) (w : World) (hl : l.length < 4294967281) (hg : Gl w) :
    Calls Tryz.prog 102 #[.string (bs l)] w fun e w' => e = .returned (.tuple #[.int .i64 (psec l).1, .bool (psec l).2]) ∧ Kept w w' := by
  obtain ⟨v, hv⟩ : ∃ v, (pint l).getD 0 = v := ⟨_, rfl⟩
  cases hb : (pint l).isSome with
  | false =>
    have HR := Lib.hid (show psec l = (v, false) by simp [psec, hv, hb])
    go_enter Tryz.func102, Tryz.ntmps102
    go_wp2_with fail
    refine (nsigned_calls l _ hl hg).mono ?_
    rintro e w' ⟨rfl, hk⟩
    go_wp2_with fail
    go_ret2
    exact ⟨by rw [HR.out]; rfl, hk⟩
  | true =>
    by_cases h1 : -1099511627776 ≤ v
    · have HR := Lib.hid (show psec l = (v, decide (v ≤ 1099511627776)) by simp [psec, hv, hb, h1])
      go_enter Tryz.func102, Tryz.ntmps102
      go_wp2_with fail
      refine (nsigned_calls l _ hl hg).mono ?_
      rintro e w' ⟨rfl, hk⟩
      go_wp2_with fail
      go_ret2
      exact ⟨by rw [HR.out]; rfl, hk⟩
    · have HR := Lib.hid (show psec l = (v, false) by simp [psec, hv, hb, h1])
      go_enter Tryz.func102, Tryz.ntmps102
      go_wp2_with fail
      refine (nsigned_calls l _ hl hg).mono ?_
      rintro e w' ⟨rfl, hk⟩
      go_wp2_with fail
      go_ret2
      exact ⟨by rw [HR.out]; rfl, hk⟩
end Go.Proofs.YtnlabbclmngphaaGreatDoor
