/- held: two values held against each other; the numbers' comparisons. -/
import Derived.Test.YtiegeggafhmehaaDoorValF
import Derived.Deep.QuietTactic
import Derived.BigQuiet
namespace Go.Proofs.YtiegeggafhmehaaDoor
open Go.RowKit Go.Proofs.YtiegeggafhmehaaDoorW.PrintWords
attribute [local go_sem] run_store_float

theorem isNaN_c (a : Nat) (w : World) : Calls Tryd.prog 107 #[.float .f64 a] w fun e w' => e = .returned (.bool (Fl.isNan a)) ∧ w = w' := by
  go_enter Tryd.func107, Tryd.ntmps107
  go_wp2
  go_ret
  exact ⟨ret_bool (Fl.order_self a), rfl⟩
theorem signbit_c (a : Nat) (h : a < 18446744073709551616) (w : World) : Calls Tryd.prog 108 #[.float .f64 a] w fun e w' => e = .returned (.bool (Fl.sg a)) ∧ w = w' := by
  have hb := run_bits a
  go_enter Tryd.func108, Tryd.ntmps108
  go_wp2
  go_ret
  exact ⟨ret_bool (Fl.sg_wrap a h), rfl⟩
theorem pSame_c (a b : Nat) (ha : a < 18446744073709551616) (hb : b < 18446744073709551616) (w : World) :
    Calls Tryd.prog 88 #[.float .f64 a, .float .f64 b] w fun e w' => e = .returned (.bool (Fl.same a b)) ∧ w = w' := by
  cases na : Fl.isNan a <;> cases nb : Fl.isNan b
  · have hs := Fl.Hd.mk (Fl.same_num ha hb na nb)
    cases ho : (FloatKind.f64.format.order a b == some .eq)
    all_goals
      go_enter Tryd.func88, Tryd.ntmps88
      go_wp2_with (first | (go_at_call 107; refine (isNaN_c _ _).mono ?_; rintro e w' ⟨rfl, rfl⟩) | (go_at_call 108; refine (signbit_c _ (by assumption) _).mono ?_; rintro e w' ⟨rfl, rfl⟩))
      go_ret
      refine ⟨ret_bool ?_, rfl⟩
      rw [← hs.out, ← Fl.fmt, ho]; rfl
  all_goals
    have hs := Fl.Hd.mk (Fl.same_nan (a := a) (b := b) (by rw [na, nb]; rfl))
    go_enter Tryd.func88, Tryd.ntmps88
    go_wp2_with (first | (go_at_call 107; refine (isNaN_c _ _).mono ?_; rintro e w' ⟨rfl, rfl⟩))
    go_ret
    refine ⟨ret_bool ?_, rfl⟩
    rw [← hs.out, na, nb]; rfl
theorem pEqual_c (a b : Nat) (w : World) :
    Calls Tryd.prog 90 #[.float .f64 a, .float .f64 b] w fun e w' => e = .returned (.bool (Fl.equal a b)) ∧ w = w' := by
  go_enter Tryd.func90, Tryd.ntmps90
  go_wp2
  go_ret
  exact ⟨ret_bool (Fl.order_beq a b), rfl⟩
theorem pSame0_c (a b : Nat) (ha : a < 18446744073709551616) (hb : b < 18446744073709551616) (w : World) :
    Calls Tryd.prog 89 #[.float .f64 a, .float .f64 b] w fun e w' => e = .returned (.bool (Fl.same0 a b)) ∧ w = w' := by
  have hs := Fl.Hd.mk (Fl.same0_or ha hb)
  have ho := Fl.Hd.mk (Fl.order_beq a b)
  cases h1 : Fl.same a b
  all_goals
    go_enter Tryd.func89, Tryd.ntmps89
    go_wp2_with (first | (go_at_call 88; refine (pSame_c _ _ (by assumption) (by assumption) _).mono ?_; rintro e w' ⟨rfl, rfl⟩))
    go_ret
    refine ⟨ret_bool ?_, rfl⟩
    rw [← hs.out, h1]
    first | rfl | exact ho.out

/-! ### what a well-formed value is, as one of the seven types -/
def oT (k : Int) : Nat := if k = 1 then 114 else if k = 2 then 115 else if k = 3 then 116 else if k = 4 then 117 else if k = 5 then 118 else if k = 6 then 119 else 120
def oU (k : Int) (b : Bool) (n : Nat) (s : ByteArray) (i : Int) : Value := if k = 1 then .agg #[] else if k = 2 then .agg #[] else if k = 3 then .bool b else if k = 4 then .float .f64 n else if k = 5 then .string s else .int .i64 i
def oF (k : Int) : Nat := if k = 1 then 74 else if k = 2 then 75 else if k = 3 then 76 else if k = 4 then 77 else if k = 5 then 79 else if k = 6 then 80 else 81
theorem oneV_eq (k : Int) (b : Bool) (n : Nat) (s : ByteArray) (i : Int) : oneV k b n s i = .iface (oT k) (oU k b n s i) := by
  unfold oneV oT oU
  repeat' split
  all_goals first | rfl | omega
theorem nilS {s : ByteArray} (h : s.toList = []) : s = ⟨#[]⟩ := by
  rw [Lib.toList_data] at h
  cases s with
  | mk d => simp only [Array.toList_eq_nil_iff] at h; rw [h]

/-- What opening a well-formed value comes to: the value. -/
theorem openAll (k : Int) (b : Bool) (n : Nat) (s : ByteArray) (i : Int) (h : gd k b n s i = true) :
    (∀ w, (method 284 (oT k) (oU k b n s i) "cameo/value.open").run Tryd.prog w = .ok (oF k, oU k b n s i) w) ∧
    (∀ w, Calls Tryd.prog (oF k) #[oU k b n s i] w fun e w' => e = .returned (VV k b n s i) ∧ Below w.heap.size w w') ∧
    (∀ args w, (callFunc (oF k) args).run Tryd.prog w = .ok (.enter (oF k) args) w) ∧ (k ≠ 4 → n = 0) := by
  unfold gd at h
  by_cases h1 : k = 1
  · subst h1
    simp only [if_true, Bool.and_eq_true, Bool.not_eq_true', decide_eq_true_eq] at h
    obtain ⟨rfl, hs, rfl, rfl⟩ := h
    obtain rfl := nilS hs
    exact ⟨meth1, open1_c, enters_of Tryd.func74 (by kernel_rfl) rfl, fun _ => rfl⟩
  rw [if_neg h1] at h
  by_cases h2 : k = 2
  · subst h2
    simp only [if_true, Bool.and_eq_true, Bool.not_eq_true', decide_eq_true_eq] at h
    obtain ⟨rfl, hs, rfl, rfl⟩ := h
    obtain rfl := nilS hs
    exact ⟨meth2, open2_c, enters_of Tryd.func75 (by kernel_rfl) rfl, fun _ => rfl⟩
  rw [if_neg h2] at h
  by_cases h3 : k = 3
  · subst h3
    simp only [if_true, Bool.and_eq_true, Bool.not_eq_true', decide_eq_true_eq] at h
    obtain ⟨hs, rfl, rfl⟩ := h
    obtain rfl := nilS hs
    exact ⟨meth3 b, open3_c b, enters_of Tryd.func76 (by kernel_rfl) rfl, fun _ => rfl⟩
  rw [if_neg h3] at h
  by_cases h4 : k = 4
  · subst h4
    simp only [if_true, Bool.and_eq_true, Bool.not_eq_true', decide_eq_true_eq] at h
    obtain ⟨rfl, hs, rfl⟩ := h
    obtain rfl := nilS hs
    exact ⟨meth4 n, open4_c n, enters_of Tryd.func77 (by kernel_rfl) rfl, fun h => absurd rfl h⟩
  rw [if_neg h4] at h
  by_cases h5 : k = 5
  · subst h5
    simp only [if_true, Bool.and_eq_true, Bool.not_eq_true', decide_eq_true_eq] at h
    obtain ⟨_, rfl, rfl, rfl⟩ := h
    exact ⟨meth5 s, open5_c s, enters_of Tryd.func79 (by kernel_rfl) rfl, fun _ => rfl⟩
  rw [if_neg h5] at h
  by_cases h6 : k = 6
  · subst h6
    simp only [if_true, Bool.and_eq_true, Bool.not_eq_true', decide_eq_true_eq] at h
    obtain ⟨_, rfl, hs, rfl⟩ := h
    obtain rfl := nilS hs
    exact ⟨meth6 i, open6_c i, enters_of Tryd.func80 (by kernel_rfl) rfl, fun _ => rfl⟩
  rw [if_neg h6] at h
  by_cases h7 : k = 7
  · subst h7
    simp only [if_true, Bool.and_eq_true, Bool.not_eq_true', decide_eq_true_eq] at h
    obtain ⟨_, rfl, hs, rfl⟩ := h
    obtain rfl := nilS hs
    exact ⟨meth7 i, open7_c i, enters_of Tryd.func81 (by kernel_rfl) rfl, fun _ => rfl⟩
  rw [if_neg h7] at h
  cases h
end Go.Proofs.YtiegeggafhmehaaDoor
