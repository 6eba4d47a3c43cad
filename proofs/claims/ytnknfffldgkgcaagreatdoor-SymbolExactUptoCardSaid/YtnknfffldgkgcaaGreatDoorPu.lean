import Derived.Test.YtnknfffldgkgcaaGreatDoorUx2Zz
import Derived.Test.YtnknfffldgkgcaaGreatDoorUtf
import Derived.Test.YtnknfffldgkgcaaGreatDoorUp
set_option linter.all false
/- Plain: what the reference's functions of chapter 1 compute, in lists. -/
namespace Go.Proofs.YtnknfffldgkgcaaGreatDoor.PR
open Go.RowKit Go.Proofs.YtnknfffldgkgcaaGreatDoorW.PrintWords Go.Proofs.YtnknfffldgkgcaaGreatDoor.U Go.Proofs.YtnknfffldgkgcaaGreatDoor.Utf

/-- Naturals as integers. -/
def cI (l : List Nat) : List Int := l.map fun (n : Nat) => (n : Int)
theorem cI_length (l : List Nat) : (cI l).length = l.length := by simp [cI]
theorem cI_append (l m : List Nat) : cI (l ++ m) = cI l ++ cI m := by simp [cI]
theorem cI_inj {l m : List Nat} (h : cI l = cI m) : l = m := by
  have := congrArg (List.map Int.toNat) h
  simpa [cI, Function.comp_def] using this
/-- A string's bytes. -/
def by_ (s : ByteArray) : List Nat := s.data.toList.map UInt8.toNat
theorem by_length (s : ByteArray) : (by_ s).length = s.size := by simp [by_]
theorem by_lt (s : ByteArray) : ∀ x ∈ by_ s, x < 256 := by
  intro x hx
  simp only [by_, List.mem_map] at hx
  obtain ⟨y, _, rfl⟩ := hx
  exact y.toNat_lt
theorem by_inj {s t : ByteArray} (h : by_ s = by_ t) : s = t := by
  have h1 : s.data.toList = t.data.toList := by
    have := congrArg (List.map UInt8.ofNat) h
    simpa [by_, Function.comp_def] using this
  cases s; cases t
  simp only [Array.toList_inj] at h1
  rw [ByteArray.mk.injEq]; exact h1
theorem rd_cI (l : List Nat) (i : Nat) (h : i < l.length) : rd (cI l) (i : Int) = ((l[i] : Nat) : Int) := by
  unfold rd cI; simp [h]
theorem rd_mid (p : List Nat) (a : Nat) (t : List Nat) : rd (cI (p ++ a :: t)) (p.length : Int) = (a : Int) := by
  rw [rd_cI _ _ (by simp)]; simp
theorem rd_mid1 (p : List Nat) (a b : Nat) (t : List Nat) : rd (cI (p ++ a :: b :: t)) ((p.length : Int) + 1) = (b : Int) := by
  have e : ((p.length : Int) + 1) = ((p.length + 1 : Nat) : Int) := by omega
  rw [e, rd_cI _ _ (by simp)]; simp
theorem bt_mid (s : ByteArray) (i : Nat) (a : Nat) (t : List Nat) (h : (by_ s).drop i = a :: t) : bt s (i : Int) = (a : Int) := by
  have hl : i < s.size := by
    have := congrArg List.length h
    rw [List.length_drop, by_length] at this
    simp at this; omega
  have e := bt_at s (i : Int) (by simpa using hl)
  rw [← e]
  have h2 : (by_ s)[i]? = some a := by
    have := congrArg (·[0]?) h
    simpa using this
  simp only [by_, List.getElem?_map, Option.map_eq_some_iff] at h2
  obtain ⟨y, hy, rfl⟩ := h2
  simp only [Int.toNat_natCast]
  have h3 : s.data.toList[i]? = some s[i] := by
    rw [Array.getElem?_toList]
    exact Array.getElem?_eq_getElem hl
  rw [h3] at hy
  cases hy; rfl
theorem w64 {x : Int} (h0 : -9223372036854775808 ≤ x) (h1 : x < 9223372036854775808) : wrap64 x = x := by unfold wrap64; omega
theorem toNum (l : List Nat) (h : ∀ x ∈ l, x < 256) : by_ (strOfNums (cI l)) = l := by
  induction l with
  | nil => rfl
  | cons a l ih =>
    have h1 := h a (by simp)
    have h2 := ih (fun x hx => h x (by simp [hx]))
    simp only [by_, strOfNums, cI, List.map_map, List.map_cons, Function.comp_def, Int.toNat_natCast] at h2 ⊢
    rw [h2]
    congr 1
    exact UInt8.toNat_ofNat_of_lt' h1

/-! ### Row -/
def rowS : Nat → List Nat → List S155
  | _, [] => []
  | i, [a] => [⟨(i : Int), (a : Int)⟩]
  | i, a :: b :: t => if hi a && lo b then ⟨(i : Int), ((65536 + 1024 * (a - 55296) + (b - 56320) : Nat) : Int)⟩ :: rowS (i + 2) t else ⟨(i : Int), (a : Int)⟩ :: rowS (i + 1) (b :: t)
theorem rowS_snd : ∀ (i : Nat) (l : List Nat), (rowS i l).map (·.f1) = cI (row l)
  | _, [] => rfl
  | _, [a] => rfl
  | i, a :: b :: t => by
    simp only [rowS, row]
    split
    · simp only [List.map_cons, cI]; rw [rowS_snd]; rfl
    · simp only [List.map_cons, cI]; rw [rowS_snd]; rfl
theorem rowS_len (i : Nat) (l : List Nat) : (rowS i l).length = (row l).length := by
  have := congrArg List.length (rowS_snd i l)
  simpa [cI] using this
theorem row_len : ∀ l : List Nat, (row l).length ≤ l.length
  | [] => by simp [row]
  | [a] => by simp [row]
  | a :: b :: t => by
    simp only [row]
    split
    · have := row_len t; simp only [List.length_cons]; omega
    · have := row_len (b :: t); simp only [List.length_cons] at this ⊢; omega

theorem high_eq (a : Nat) : cameoref01_high.f (a : Int) = some (hi a) := by
  unfold cameoref01_high.f hi
  by_cases h : 55296 ≤ a
  · rw [if_pos (by omega), decide_eq_true h, Bool.true_and]
    exact congrArg some (decide_eq_decide.2 (by omega))
  · rw [if_neg (by omega), decide_eq_false h]; rfl
theorem low_eq (a : Nat) : cameoref01_low.f (a : Int) = some (lo a) := by
  unfold cameoref01_low.f lo
  by_cases h : 56320 ≤ a
  · rw [if_pos (by omega), decide_eq_true h, Bool.true_and]
    exact congrArg some (decide_eq_decide.2 (by omega))
  · rw [if_neg (by omega), decide_eq_false h]; rfl

theorem Row_l0 : ∀ (s p : List Nat) (acc : List S155) (k : Nat), s.length < k → (p ++ s).length ≤ 4398046511104 → (∀ x ∈ s, x < 65536) → acc.length ≤ p.length →
    cameoref01_Row.l0 k (cI (p ++ s)) acc (p.length : Int) = some (acc ++ rowS p.length s)
  | [], p, acc, k, hk, _, _, _ => by
    obtain ⟨k, rfl⟩ : ∃ m, k = m + 1 := ⟨k - 1, by omega⟩
    simp only [cameoref01_Row.l0, rowS, List.append_nil]
    rw [if_neg (by rw [cI_length]; omega)]
  | [a], p, acc, k, hk, hb, hx, ha => by
    obtain ⟨k, rfl⟩ : ∃ m, k = m + 1 := ⟨k - 1, by omega⟩
    have h1 := hx a (by simp)
    simp only [List.length_append, List.length_cons, List.length_nil] at hb hk
    simp only [cameoref01_Row.l0, rowS]
    rw [if_pos (by rw [cI_length]; simp; omega), if_pos (by omega), rd_mid, high_eq]
    simp only [Option.bind_some]
    have e1 : wrap64 ((p.length : Int) + 1) = ((p ++ [a]).length : Int) := by rw [w64 (by omega) (by omega)]; simp
    have e2 : wrap64 ((a : Int)) = (a : Int) := w64 (by omega) (by omega)
    have e3 : cameoref01_Row.l0 k (cI (p ++ [a])) (acc ++ [⟨(p.length : Int), (a : Int)⟩]) ((p ++ [a]).length : Int) = some ((acc ++ [⟨(p.length : Int), (a : Int)⟩]) ++ rowS (p ++ [a]).length []) := by
      have := Row_l0 [] (p ++ [a]) (acc ++ [⟨(p.length : Int), (a : Int)⟩]) k (by simp; omega) (by simp; omega) (by simp) (by simp; omega)
      simpa using this
    rw [e1, e2]
    have e4 : ¬ ((p ++ [a]).length : Int) < ((cI (p ++ [a])).length : Int) := by rw [cI_length]; omega
    have e5 : acc.length < 8796093022208 := by omega
    rw [if_neg e4, if_pos e5, e3]
    split <;> simp [rowS]
  | a :: b :: t, p, acc, k, hk, hb, hx, ha => by
    obtain ⟨k, rfl⟩ : ∃ m, k = m + 1 := ⟨k - 1, by omega⟩
    have h1 := hx a (by simp)
    have h2 := hx b (by simp)
    simp only [List.length_append, List.length_cons] at hb hk
    have e1 : wrap64 ((p.length : Int) + 1) = (p.length : Int) + 1 := w64 (by omega) (by omega)
    have e2 : wrap64 ((a : Int)) = (a : Int) := w64 (by omega) (by omega)
    have i1 := Row_l0 (b :: t) (p ++ [a]) (acc ++ [⟨(p.length : Int), (a : Int)⟩]) k (by simp; omega) (by simp; omega) (fun x h => hx x (by simp only [List.mem_cons] at h ⊢; exact .inr h)) (by simp; omega)
    have i1' : cameoref01_Row.l0 k (cI (p ++ a :: b :: t)) (acc ++ [⟨(p.length : Int), (a : Int)⟩]) ((p.length : Int) + 1) = some (acc ++ (⟨(p.length : Int), (a : Int)⟩ :: rowS (p.length + 1) (b :: t))) := by
      have e : ((p ++ [a]).length : Int) = (p.length : Int) + 1 := by simp
      rw [e] at i1
      simpa [List.append_assoc] using i1
    simp only [cameoref01_Row.l0, rowS]
    rw [if_pos (by rw [cI_length]; simp; omega), if_pos (by omega), rd_mid, high_eq]
    simp only [Option.bind_some]
    rw [e1, e2]
    have e5 : acc.length < 8796093022208 := by omega
    have e6 : (p.length : Int) + 1 < ((cI (p ++ a :: b :: t)).length : Int) := by rw [cI_length]; simp; omega
    have e7 : (0 : Int) ≤ (p.length : Int) + 1 := by omega
    rw [if_pos e6, if_pos e7, rd_mid1, low_eq]
    simp only [Option.bind_some, if_pos e5]
    cases ha' : hi a
    · simp only [Bool.false_eq_true, if_false, Bool.false_and]
      rw [i1']
    · cases hb' : lo b
      · simp only [Bool.false_eq_true, if_false, Bool.and_false, if_true]
        rw [i1']
      · simp only [if_true, Bool.and_self]
        simp only [hi, lo, Bool.and_eq_true, decide_eq_true_eq] at ha' hb'
        have i2 := Row_l0 t (p ++ [a, b]) (acc ++ [⟨(p.length : Int), ((65536 + 1024 * (a - 55296) + (b - 56320) : Nat) : Int)⟩]) k (by omega) (by simp; omega) (fun x h => hx x (by simp [h])) (by simp; omega)
        have e : ((p ++ [a, b]).length : Int) = wrap64 ((p.length : Int) + 1 + 1) := by rw [w64 (by omega) (by omega)]; simp; omega
        rw [e] at i2
        have v : wrap64 ((wrap64 ((wrap64 (65536 + (wrap64 (1024 * (wrap64 ((a : Int) - 55296)))))) + (wrap64 ((b : Nat) : Int)))) - 56320) = ((65536 + 1024 * (a - 55296) + (b - 56320) : Nat) : Int) := by
          unfold wrap64; omega
        rw [v]
        simpa [List.append_assoc] using i2

theorem Row_eq (l : List Nat) (k : Nat) (hk : l.length < k) (hb : l.length ≤ 4398046511104) (hx : ∀ x ∈ l, x < 65536) : cameoref01_Row.f k (cI l) = some (rowS 0 l) := by
  unfold cameoref01_Row.f
  simpa using Row_l0 l [] [] k hk (by simpa using hb) hx (by simp)

/-! ### put, Of -/
theorem td (c k : Nat) : Int.tdiv (c : Int) (k : Int) = ((c / k : Nat) : Int) := by rw [Int.tdiv_eq_ediv_of_nonneg (by omega)]; omega
theorem tm (c k : Nat) : Int.tmod (c : Int) (k : Int) = ((c % k : Nat) : Int) := by rw [Int.tmod_eq_emod_of_nonneg (by omega)]; omega

theorem b8 {x : Int} {n : Nat} (h : x = (n : Int)) (hn : n < 256) : (wrap64 x) % 256 = (n : Int) := by subst h; unfold wrap64; omega
theorem w64n (n : Nat) (h : n < 2147483648) : wrap64 (n : Int) = (n : Int) := by unfold wrap64; omega

theorem put1 (l : List Int) (c : Nat) (hl1 : l.length < 70368744177664) (h1 : c < 128) : cameoref01_put.f l (c : Int) = some (l ++ cI (enc c)) := by
  unfold cameoref01_put.f enc
  rw [if_pos (by omega), if_pos (by omega), if_pos h1]
  have : (c : Int) % 256 = (c : Int) := by omega
  rw [this]; rfl
theorem put2 (l : List Int) (c : Nat) (hl1 : l.length < 70368744177664) (h1 : ¬ c < 128) (h2 : c < 2048) : cameoref01_put.f l (c : Int) = some (l ++ cI (enc c)) := by
  unfold cameoref01_put.f enc
  rw [if_neg (by omega), if_pos (by omega), if_neg h1, if_pos h2]
  have a1 : Int.tdiv (c : Int) 64 = ((c / 64 : Nat) : Int) := td c 64
  have a4 : Int.tmod (c : Int) 64 = ((c % 64 : Nat) : Int) := tm c 64
  rw [a1, a4, w64n _ (by omega)]
  have e1 : (wrap64 (192 + ((c / 64 : Nat) : Int))) % 256 = ((192 + c / 64 : Nat) : Int) := b8 (by omega) (by omega)
  have e2 : (wrap64 (128 + ((c % 64 : Nat) : Int))) % 256 = ((128 + c % 64 : Nat) : Int) := b8 (by omega) (by omega)
  rw [e1, e2]
  simp only [Option.bind_some, List.length_cons, List.length_nil]
  rw [if_pos (by omega)]
  rfl
theorem put3 (l : List Int) (c : Nat) (hl1 : l.length < 70368744177664) (h1 : ¬ c < 2048) (h2 : c < 65536) : cameoref01_put.f l (c : Int) = some (l ++ cI (enc c)) := by
  unfold cameoref01_put.f enc
  rw [if_neg (by omega), if_neg (by omega), if_pos (by omega), if_neg (by omega), if_neg h1, if_pos h2]
  have a1 : Int.tdiv (c : Int) 64 = ((c / 64 : Nat) : Int) := td c 64
  have a2 : Int.tdiv (c : Int) 4096 = ((c / 4096 : Nat) : Int) := td c 4096
  have a4 : Int.tmod (c : Int) 64 = ((c % 64 : Nat) : Int) := tm c 64
  have b1 : Int.tmod ((c / 64 : Nat) : Int) 64 = ((c / 64 % 64 : Nat) : Int) := tm (c / 64) 64
  rw [a1, a2, a4, w64n (c / 64) (by omega), w64n (c / 4096) (by omega), b1]
  have e1 : (wrap64 (224 + ((c / 4096 : Nat) : Int))) % 256 = ((224 + c / 4096 : Nat) : Int) := b8 (by omega) (by omega)
  have e2 : (wrap64 (128 + ((c / 64 % 64 : Nat) : Int))) % 256 = ((128 + c / 64 % 64 : Nat) : Int) := b8 (by omega) (by omega)
  have e3 : (wrap64 (128 + ((c % 64 : Nat) : Int))) % 256 = ((128 + c % 64 : Nat) : Int) := b8 (by omega) (by omega)
  rw [e1, e2, e3]
  simp only [Option.bind_some, List.length_cons, List.length_nil]
  rw [if_pos (by omega)]
  rfl
theorem put4 (l : List Int) (c : Nat) (hl1 : l.length < 70368744177664) (h1 : ¬ c < 65536) (h2 : c ≤ 1114111) : cameoref01_put.f l (c : Int) = some (l ++ cI (enc c)) := by
  unfold cameoref01_put.f enc
  rw [if_neg (by omega), if_neg (by omega), if_neg (by omega), if_neg (by omega), if_neg (by omega), if_neg h1]
  have a1 : Int.tdiv (c : Int) 64 = ((c / 64 : Nat) : Int) := td c 64
  have a2 : Int.tdiv (c : Int) 4096 = ((c / 4096 : Nat) : Int) := td c 4096
  have a3 : Int.tdiv (c : Int) 262144 = ((c / 262144 : Nat) : Int) := td c 262144
  have a4 : Int.tmod (c : Int) 64 = ((c % 64 : Nat) : Int) := tm c 64
  have b1 : Int.tmod ((c / 64 : Nat) : Int) 64 = ((c / 64 % 64 : Nat) : Int) := tm (c / 64) 64
  have b2 : Int.tmod ((c / 4096 : Nat) : Int) 64 = ((c / 4096 % 64 : Nat) : Int) := tm (c / 4096) 64
  rw [a1, a2, a3, a4, w64n (c / 64) (by omega), w64n (c / 4096) (by omega), w64n (c / 262144) (by omega), b1, b2]
  have e1 : (wrap64 (240 + ((c / 262144 : Nat) : Int))) % 256 = ((240 + c / 262144 : Nat) : Int) := b8 (by omega) (by omega)
  have e4 : (wrap64 (128 + ((c / 4096 % 64 : Nat) : Int))) % 256 = ((128 + c / 4096 % 64 : Nat) : Int) := b8 (by omega) (by omega)
  have e2 : (wrap64 (128 + ((c / 64 % 64 : Nat) : Int))) % 256 = ((128 + c / 64 % 64 : Nat) : Int) := b8 (by omega) (by omega)
  have e3 : (wrap64 (128 + ((c % 64 : Nat) : Int))) % 256 = ((128 + c % 64 : Nat) : Int) := b8 (by omega) (by omega)
  rw [e1, e2, e3, e4]
  simp only [Option.bind_some, List.length_cons, List.length_nil]
  rw [if_pos (by omega)]
  rfl
theorem put_eq (l : List Int) (c : Nat) (hl : l.length < 70368744177664) (hc : c ≤ 1114111) : cameoref01_put.f l (c : Int) = some (l ++ cI (enc c)) := by
  by_cases h1 : c < 128
  · exact put1 l c hl h1
  · by_cases h2 : c < 2048
    · exact put2 l c hl h1 h2
    · by_cases h3 : c < 65536
      · exact put3 l c hl h2 h3
      · exact put4 l c hl h3 hc

theorem enc_all (cs : List Nat) : (cs.flatMap enc).length ≤ 4 * cs.length := by
  induction cs with
  | nil => simp
  | cons c cs ih => have := enc_len c; simp only [List.flatMap_cons, List.length_append, List.length_cons]; omega

theorem Of_l0 : ∀ (s p : List S155) (cs : List Nat) (acc : List Int) (k : Nat), s.length < k → (p ++ s).length ≤ 4398046511104 → acc.length ≤ 4 * p.length → s.map (·.f1) = cI cs → (∀ c ∈ cs, c ≤ 1114111) →
    cameoref01_Of.l0 k acc (p ++ s) (p.length : Int) = some (strOfNums (acc ++ cI (cs.flatMap enc)))
  | [], p, cs, acc, k, hk, _, _, hm, _ => by
    obtain ⟨k, rfl⟩ : ∃ m, k = m + 1 := ⟨k - 1, by omega⟩
    have : cs = [] := by cases cs with
      | nil => rfl
      | cons c cs => simp [cI] at hm
    subst this
    simp only [cameoref01_Of.l0, List.append_nil]
    rw [if_neg (by omega)]
    simp [cI]
  | x :: s, p, cs, acc, k, hk, hb, ha, hm, hc => by
    obtain ⟨k, rfl⟩ : ∃ m, k = m + 1 := ⟨k - 1, by omega⟩
    match cs, hm with
    | [], hm => simp [cI] at hm
    | c :: cs, hm =>
      simp only [List.map_cons, cI, List.cons.injEq] at hm
      obtain ⟨hx, hm⟩ := hm
      have h1 := hc c (by simp)
      have hl := enc_len c
      simp only [List.length_append, List.length_cons] at hb hk
      have ih := Of_l0 s (p ++ [x]) cs (acc ++ cI (enc c)) k (by omega) (by simp; omega) (by simp [cI_length]; omega) hm (fun c' h => hc c' (by simp [h]))
      simp only [cameoref01_Of.l0]
      have r : (rd_T155 (p ++ x :: s) (p.length : Int)).f1 = (c : Int) := by
        unfold rd_T155; simp [hx]
      rw [if_pos (by simp; omega), if_pos (by omega), r, put_eq _ _ (by omega) h1]
      simp only [Option.bind_some]
      have e : ((p ++ [x]).length : Int) = wrap64 ((p.length : Int) + 1) := by rw [w64 (by omega) (by omega)]; simp
      rw [e] at ih
      simpa [List.append_assoc, cI_append] using ih

/-- The bytes of a row, as a string. -/
def ofS (l : List Nat) : ByteArray := strOfNums (cI (of l))
theorem rowle (l : List Nat) (hx : ∀ x ∈ l, x < 65536) : ∀ c ∈ row l, c ≤ 1114111 := by
  have h := row_good0 l hx
  generalize row l = cs at h
  revert h
  generalize (0 : Nat) = last
  intro h c hc
  induction cs generalizing last with
  | nil => simp at hc
  | cons a cs ih =>
    obtain ⟨h1, h2, h3⟩ := h
    rcases List.mem_cons.1 hc with e | e
    · subst e; exact h1
    · exact ih a h3 e
theorem of_lt (l : List Nat) (hx : ∀ x ∈ l, x < 65536) : ∀ b ∈ of l, b < 256 := by
  intro b hb
  simp only [of, List.mem_flatMap] at hb
  obtain ⟨c, hc, hb⟩ := hb
  exact enc_lt c (rowle l hx c hc) b hb
theorem by_ofS (l : List Nat) (hx : ∀ x ∈ l, x < 65536) : by_ (ofS l) = of l := toNum _ (of_lt l hx)

theorem Of_eq (l : List Nat) (k : Nat) (hk : l.length < k) (hb : l.length ≤ 4398046511104) (hx : ∀ x ∈ l, x < 65536) : cameoref01_Of.f k (cI l) = some (ofS l) := by
  unfold cameoref01_Of.f
  rw [Row_eq l k hk hb hx]
  simp only [Option.bind_some]
  have hr := row_len l
  have := Of_l0 (rowS 0 l) [] (row l) [] k (by rw [rowS_len]; omega) (by simp [rowS_len]; omega) (by simp) (rowS_snd 0 l) (rowle l hx)
  simpa [ofS, of] using this
end Go.Proofs.YtnknfffldgkgcaaGreatDoor.PR

/- Plain: the reference's reading of bytes, in lists. -/
namespace Go.Proofs.YtnknfffldgkgcaaGreatDoor.PR
open Go.RowKit Go.Proofs.YtnknfffldgkgcaaGreatDoorW.PrintWords Go.Proofs.YtnknfffldgkgcaaGreatDoor.U Go.Proofs.YtnknfffldgkgcaaGreatDoor.Utf

def tlv : Nat → List Nat → Nat → Option Nat
  | 0, _, c => some c
  | _ + 1, [], _ => none
  | n + 1, b :: t, c => if b < 128 then none else if 191 < b then none else tlv n t (64 * c + b - 128)
def rbase (b : Nat) : Option (Nat × Nat) :=
  if b < 128 then some (0, b) else if b < 192 then none else if b < 224 then some (1, b - 192) else if b < 240 then some (2, b - 224) else if b < 248 then some (3, b - 240) else none
def rstep : List Nat → Option (Nat × Nat)
  | [] => none
  | b :: t => (rbase b).bind fun nb => (tlv nb.1 t 0).bind fun c => if 1114111 < c + nb.2 * 64 ^ nb.1 then none else some (c + nb.2 * 64 ^ nb.1, nb.1 + 1)

def neg1 : Option Nat → Int
  | none => -1
  | some v => (v : Int)

theorem tlv_lt : ∀ n t c v j, tlv n t c = some v → c < 64 ^ j → v < 64 ^ (j + n)
  | 0, _, c, v, j, h, hc => by simp only [tlv, Option.some.injEq] at h; subst h; exact hc
  | n + 1, [], c, v, j, h, _ => by simp [tlv] at h
  | n + 1, b :: t, c, v, j, h, hc => by
    simp only [tlv] at h
    split at h
    · cases h
    · split at h
      · cases h
      · have := tlv_lt n t _ v (j + 1) h (by rw [Nat.pow_succ]; omega)
        have e : j + 1 + n = j + (n + 1) := by omega
        rwa [e] at this
theorem tlv_len : ∀ n t c v, tlv n t c = some v → n ≤ t.length
  | 0, _, _, _, _ => by omega
  | n + 1, [], _, _, h => by simp [tlv] at h
  | n + 1, b :: t, c, v, h => by
    simp only [tlv] at h
    split at h
    · cases h
    · split at h
      · cases h
      · have := tlv_len n t _ v h
        simp only [List.length_cons]; omega

theorem p64 (j : Nat) (h : j ≤ 3) : 64 ^ j ≤ 262144 := by
  match j, h with
  | 0, _ => decide
  | 1, _ => decide
  | 2, _ => decide
  | 3, _ => decide

theorem wr_tail (c b : Nat) (hc : c ≤ 262144) (h1 : ¬ b < 128) (h2 : b < 256) : wrap64 ((wrap64 ((wrap64 (64 * (c : Int))) + (wrap64 (b : Int)))) - 128) = ((64 * c + b - 128 : Nat) : Int) := by
  rw [w64 (x := 64 * (c : Int)) (by omega) (by omega), w64 (x := (b : Int)) (by omega) (by omega), w64 (x := 64 * (c : Int) + (b : Int)) (by omega) (by omega), w64 (by omega) (by omega)]
  omega
theorem wr_succ (j : Nat) (hj : j ≤ 4398046511104) : wrap64 ((j : Int) + 1) = ((j + 1 : Nat) : Int) := by rw [w64 (by omega) (by omega)]; omega

theorem tail_l0 (s : ByteArray) (a n : Nat) (hs : s.size ≤ 4398046511104) (ha : a ≤ s.size) (hn : n ≤ 3) : ∀ (d j c k : Nat), j + d = n → d < k → c < 64 ^ j →
    cameoref01_tail.l0 k s (a : Int) (n : Int) (c : Int) (j : Int) = some (neg1 (tlv d ((by_ s).drop (a + j)) c))
  | 0, j, c, k, h1, h2, _ => by
    obtain ⟨k, rfl⟩ : ∃ m, k = m + 1 := ⟨k - 1, by omega⟩
    simp only [cameoref01_tail.l0, tlv, neg1]
    rw [if_neg (by omega)]
  | d + 1, j, c, k, h1, h2, hc => by
    obtain ⟨k, rfl⟩ : ∃ m, k = m + 1 := ⟨k - 1, by omega⟩
    have hp := p64 j (by omega)
    simp only [cameoref01_tail.l0]
    rw [if_pos (by omega), w64 (show _ ≤ (a : Int) + (j : Int) by omega) (by omega)]
    by_cases hl : s.size ≤ a + j
    · rw [if_pos (by omega)]
      have : (by_ s).drop (a + j) = [] := List.drop_eq_nil_of_le (by rw [by_length]; exact hl)
      rw [this]; rfl
    · rw [if_neg (by omega), if_pos (by omega), if_pos (by omega)]
      obtain ⟨b, t, hb⟩ : ∃ b t, (by_ s).drop (a + j) = b :: t := by
        cases h : (by_ s).drop (a + j) with
        | nil => have := congrArg List.length h; rw [List.length_drop, by_length] at this; simp at this; omega
        | cons b t => exact ⟨b, t, rfl⟩
      have hlt : b < 256 := by_lt s b (List.mem_of_mem_drop (by rw [hb]; simp))
      have ht : (by_ s).drop (a + (j + 1)) = t := by
        have := congrArg (List.drop 1) hb
        simpa [List.drop_drop, Nat.add_assoc, Nat.add_comm] using this
      have e : ((a : Int) + (j : Int)) = ((a + j : Nat) : Int) := by omega
      rw [e, bt_mid s (a + j) b t hb, hb]
      simp only [tlv]
      by_cases g1 : b < 128
      · rw [if_pos (by omega), if_pos g1]; rfl
      · rw [if_neg (by omega), if_neg g1]
        by_cases g2 : 191 < b
        · rw [if_pos (by omega), if_pos g2]; rfl
        · rw [if_neg (by omega), if_neg g2]
          have v := wr_tail c b (by omega) g1 hlt
          have v2 := wr_succ j (by omega)
          rw [v, v2, tail_l0 s a n hs ha hn d (j + 1) (64 * c + b - 128) k (by omega) (by omega) (by rw [Nat.pow_succ]; omega), ht]

theorem tail_eq (s : ByteArray) (a n k : Nat) (hs : s.size ≤ 4398046511104) (ha : a ≤ s.size) (hn : n ≤ 3) (hk : 4 ≤ k) : cameoref01_tail.f k s (a : Int) (n : Int) = some (neg1 (tlv n ((by_ s).drop a) 0)) := by
  unfold cameoref01_tail.f
  have := tail_l0 s a n hs ha hn n 0 0 k (by omega) (by omega) (by simp)
  simpa using this

theorem w16 (n : Int) : IntKind.u16.wrap n = n % 65536 := by simp [IntKind.wrap, IntKind.bits, IntKind.signed]

theorem u16a (q : Nat) (h : q < 1024) : IntKind.u16.wrap (wrap64 (55296 + (wrap64 (q : Int)))) = ((55296 + q : Nat) : Int) := by
  rw [w16, w64 (x := (q : Int)) (by omega) (by omega), w64 (by omega) (by omega)]; omega
theorem u16b (q : Nat) (h : q < 1024) : IntKind.u16.wrap (wrap64 (56320 + (q : Int))) = ((56320 + q : Nat) : Int) := by
  rw [w16, w64 (by omega) (by omega)]; omega

/-- What is done behind a code point that has been read. -/
def after (s : ByteArray) (acc : List Int) (i c n k : Nat) : Option (List Int × Bool) :=
  if 1114111 < c then some ([], false) else cameoref01_read.l0 k s (acc ++ cI (u16 c)) ((i + n : Nat) : Int)

theorem read_l1 (s : ByteArray) (acc : List Int) (i n c : Nat) (hi : i ≤ 4398046511104) (hn : n ≤ 3) (hacc : acc.length ≤ 35184372088832) (hc : c < 262144) (k : Nat) : ∀ (d j b : Nat), j + d = n → b * 64 ^ d < 2147483648 →
    cameoref01_read.l1 (k + 1 + d) s acc (i : Int) (n : Int) (b : Int) (c : Int) (j : Int) = after s acc i (c + b * 64 ^ d) (n + 1) k
  | 0, j, b, hj, hb => by
    simp only [Nat.pow_zero, Nat.mul_one] at hb ⊢
    simp only [cameoref01_read.l1, after]
    rw [if_neg (by omega), w64 (show _ ≤ (c : Int) + (b : Int) by omega) (by omega)]
    by_cases g : 1114111 < c + b
    · rw [if_pos (by omega), if_pos g]
    · rw [if_neg (by omega), if_neg g]
      have e : wrap64 ((i : Int) + (wrap64 (1 + (n : Int)))) = ((i + (n + 1) : Nat) : Int) := by unfold wrap64; omega
      rw [e]
      unfold u16
      by_cases g2 : 65536 ≤ c + b
      · rw [if_pos (by omega), if_pos g2]
        have e0 : wrap64 ((c : Int) + (b : Int) - 65536) = ((c + b - 65536 : Nat) : Int) := by unfold wrap64; omega
        have e1 : Int.tdiv ((c + b - 65536 : Nat) : Int) 1024 = (((c + b - 65536) / 1024 : Nat) : Int) := td _ 1024
        have e2 : Int.tmod ((c + b - 65536 : Nat) : Int) 1024 = (((c + b - 65536) % 1024 : Nat) : Int) := tm _ 1024
        rw [e0, e1, e2]
        have e3 : IntKind.u16.wrap (wrap64 (55296 + (wrap64 (((c + b - 65536) / 1024 : Nat) : Int)))) = ((55296 + (c + b - 65536) / 1024 : Nat) : Int) := u16a _ (by omega)
        have e4 : IntKind.u16.wrap (wrap64 (56320 + (((c + b - 65536) % 1024 : Nat) : Int))) = ((56320 + (c + b - 65536) % 1024 : Nat) : Int) := u16b _ (by omega)
        rw [e3, e4]
        simp only [Option.bind_some, List.length_cons, List.length_nil]
        rw [if_pos (by omega)]
        simp only [cI, List.map_cons, List.map_nil]
      · rw [if_neg (by omega), if_neg g2, if_pos (by omega)]
        have e3 : IntKind.u16.wrap ((c : Int) + (b : Int)) = ((c + b : Nat) : Int) := by rw [w16]; omega
        rw [e3]
        simp only [cI, List.map_cons, List.map_nil]
  | d + 1, j, b, hj, hb => by
    have hp : 1 ≤ 64 ^ d := Nat.pos_of_ne_zero (by simp)
    have hb' : b * 64 * 64 ^ d < 2147483648 := by rw [Nat.mul_assoc, Nat.mul_comm 64, ← Nat.pow_succ]; exact hb
    have hb2 : b * 64 < 2147483648 := Nat.lt_of_le_of_lt (Nat.le_mul_of_pos_right _ hp) hb'
    have e : k + 1 + (d + 1) = (k + 1 + d) + 1 := by omega
    rw [e]
    simp only [cameoref01_read.l1]
    have v1 : wrap64 ((b : Int) * 64) = ((b * 64 : Nat) : Int) := by unfold wrap64; omega
    have v2 : wrap64 ((j : Int) + 1) = ((j + 1 : Nat) : Int) := by unfold wrap64; omega
    rw [if_pos (by omega), v1, v2, read_l1 s acc i n c hi hn hacc hc k d (j + 1) (b * 64) (by omega) hb']
    rw [Nat.mul_assoc, Nat.mul_comm 64, ← Nat.pow_succ]

theorem read_j3 (s : ByteArray) (acc : List Int) (i n b k : Nat) (hs : s.size ≤ 4398046511104) (hi : i < s.size) (hn : n ≤ 3) (hacc : acc.length ≤ 35184372088832) (hb : b * 64 ^ n < 2147483648) (hk : 4 ≤ k) :
    cameoref01_read.j3 (k + 1 + n + 1) s acc (i : Int) (n : Int) (b : Int) = match tlv n ((by_ s).drop (i + 1)) 0 with
      | none => some ([], false)
      | some c => after s acc i (c + b * 64 ^ n) (n + 1) k := by
  simp only [cameoref01_read.j3]
  rw [wr_succ i (by omega), tail_eq s (i + 1) n _ hs (by omega) hn (by omega)]
  simp only [Option.bind_some]
  cases ht : tlv n ((by_ s).drop (i + 1)) 0 with
  | none => rw [if_pos (show neg1 none < 0 by decide)]
  | some c =>
    have hc : c < 262144 := by
      have := tlv_lt n _ 0 c 0 ht (by simp)
      have h2 := p64 (0 + n) (by omega)
      omega
    have e : neg1 (some c) = (c : Int) := rfl
    rw [e, if_neg (by omega)]
    exact read_l1 s acc i n c (by omega) hn hacc hc k n 0 b (by omega) hb

/-- One code point read. -/
def Step (s : ByteArray) (acc : List Int) (i K : Nat) (r : Option (List Int × Bool)) : Prop :=
  match rstep ((by_ s).drop i) with
  | none => r = some ([], false)
  | some cn => ∃ k', K ≤ k' + 9 ∧ r = cameoref01_read.l0 k' s (acc ++ cI (u16 cn.1)) ((i + cn.2 : Nat) : Int)

theorem step_of_j3 (s : ByteArray) (acc : List Int) (i n b K K' x : Nat) (t : List Nat) (hx : (by_ s).drop i = x :: t) (hr : rbase x = some (n, b)) (hs : s.size ≤ 4398046511104) (hi : i < s.size) (hn : n ≤ 3) (hacc : acc.length ≤ 35184372088832)
    (hb : b * 64 ^ n < 2147483648) (hK : 20 ≤ K) (hK' : K ≤ K' + 3) : Step s acc i K (cameoref01_read.j3 K' s acc (i : Int) (n : Int) (b : Int)) := by
  obtain ⟨k, rfl⟩ : ∃ m, K' = m + 1 + n + 1 := ⟨K' - n - 2, by omega⟩
  have ht : (by_ s).drop (i + 1) = t := by
    have := congrArg (List.drop 1) hx
    simpa [List.drop_drop, Nat.add_comm] using this
  unfold Step
  by_cases hk : 4 ≤ k
  · rw [read_j3 s acc i n b k hs hi hn hacc hb hk, ht, hx]
    simp only [rstep, hr, Option.bind_some]
    cases h : tlv n t 0 with
    | none => rfl
    | some c =>
      simp only [Option.bind_some, after]
      by_cases g : 1114111 < c + b * 64 ^ n
      · rw [if_pos g, if_pos g]
      · rw [if_neg g, if_neg g]
        exact ⟨k, by omega, rfl⟩
  · omega

theorem read_step (s : ByteArray) (acc : List Int) (i K : Nat) (hs : s.size ≤ 4398046511104) (hi : i < s.size) (hacc : acc.length ≤ 35184372088832) (hK : 20 ≤ K) : Step s acc i K (cameoref01_read.l0 K s acc (i : Int)) := by
  obtain ⟨k, rfl⟩ : ∃ m, K = m + 4 := ⟨K - 4, by omega⟩
  obtain ⟨x, t, hx⟩ : ∃ x t, (by_ s).drop i = x :: t := by
    cases h : (by_ s).drop i with
    | nil => have := congrArg List.length h; rw [List.length_drop, by_length] at this; simp at this; omega
    | cons b t => exact ⟨b, t, rfl⟩
  have hlt : x < 256 := by_lt s x (List.mem_of_mem_drop (by rw [hx]; simp))
  have hw : wrap64 (bt s (i : Int)) = (x : Int) := by rw [bt_mid s i x t hx, w64 (by omega) (by omega)]
  have hnone : rbase x = none → Step s acc i (k + 4) (some ([], false)) := by
    intro h
    unfold Step
    rw [hx]
    simp only [rstep, h, Option.bind_none]
  simp only [cameoref01_read.l0]
  rw [if_pos (by omega), if_pos (by omega), hw]
  by_cases h1 : x < 128
  · rw [if_pos (by omega)]
    exact step_of_j3 s acc i 0 x _ _ x t hx (by simp [rbase, h1]) hs hi (by omega) hacc (by simp; omega) (by omega) (by omega)
  · rw [if_neg (by omega)]
    have hj : Step s acc i (k + 4) (cameoref01_read.j1 (k + 3) s acc (i : Int) (x : Int) (decide (192 ≤ x ∧ x < 224))) := by
      simp only [cameoref01_read.j1]
      by_cases h2 : 192 ≤ x ∧ x < 224
      · rw [if_pos (by simpa using h2)]
        have e : wrap64 ((x : Int) - 192) = ((x - 192 : Nat) : Int) := by rw [w64 (by omega) (by omega)]; omega
        rw [e]
        exact step_of_j3 s acc i 1 (x - 192) _ _ x t hx (by unfold rbase; rw [if_neg h1, if_neg (by omega), if_pos (by omega)]) hs hi (by omega) hacc (by simp; omega) (by omega) (by omega)
      · rw [if_neg (by simpa using h2)]
        have hj2 : Step s acc i (k + 4) (cameoref01_read.j2 (k + 2) s acc (i : Int) (x : Int) (decide (224 ≤ x ∧ x < 240))) := by
          simp only [cameoref01_read.j2]
          by_cases h3 : 224 ≤ x ∧ x < 240
          · rw [if_pos (by simpa using h3)]
            have e : wrap64 ((x : Int) - 224) = ((x - 224 : Nat) : Int) := by rw [w64 (by omega) (by omega)]; omega
            rw [e]
            exact step_of_j3 s acc i 2 (x - 224) _ _ x t hx (by unfold rbase; rw [if_neg h1, if_neg (by omega), if_neg (by omega), if_pos (by omega)]) hs hi (by omega) hacc (by simp; omega) (by omega) (by omega)
          · rw [if_neg (by simpa using h3)]
            by_cases h4 : 240 ≤ x
            · rw [if_pos (by omega)]
              by_cases h5 : x < 248
              · rw [if_pos (by omega)]
                have e : wrap64 ((x : Int) - 240) = ((x - 240 : Nat) : Int) := by rw [w64 (by omega) (by omega)]; omega
                rw [e]
                exact step_of_j3 s acc i 3 (x - 240) _ _ x t hx (by unfold rbase; rw [if_neg h1, if_neg (by omega), if_neg (by omega), if_neg (by omega), if_pos (by omega)]) hs hi (by omega) hacc (by simp; omega) (by omega) (by omega)
              · rw [if_neg (by omega)]
                exact hnone (by unfold rbase; rw [if_neg h1, if_neg (by omega), if_neg (by omega), if_neg (by omega), if_neg (by omega)])
            · rw [if_neg (by omega)]
              exact hnone (by unfold rbase; rw [if_neg h1, if_pos (by omega)])
        by_cases h6 : 224 ≤ x
        · rw [if_pos (by omega)]
          have : decide ((x : Int) < 240) = decide (224 ≤ x ∧ x < 240) := decide_eq_decide.2 (by omega)
          rw [this]; exact hj2
        · rw [if_neg (by omega)]
          have : false = decide (224 ≤ x ∧ x < 240) := (decide_eq_false (by omega)).symm
          rw [this]; exact hj2
    by_cases h7 : 192 ≤ x
    · rw [if_pos (by omega)]
      have : decide ((x : Int) < 224) = decide (192 ≤ x ∧ x < 224) := decide_eq_decide.2 (by omega)
      rw [this]; exact hj
    · rw [if_neg (by omega)]
      have : false = decide (192 ≤ x ∧ x < 224) := (decide_eq_false (by omega)).symm
      rw [this]; exact hj
end Go.Proofs.YtnknfffldgkgcaaGreatDoor.PR

/- Plain: the reference's Valid and Units: what they answer, at every string. -/
namespace Go.Proofs.YtnknfffldgkgcaaGreatDoor.PR
open Go.RowKit Go.Proofs.YtnknfffldgkgcaaGreatDoorW.PrintWords Go.Proofs.YtnknfffldgkgcaaGreatDoor.U Go.Proofs.YtnknfffldgkgcaaGreatDoor.Utf

theorem rstep_enc (c : Nat) (h : c ≤ 1114111) (t : List Nat) : rstep (enc c ++ t) = some (c, (enc c).length) := by
  unfold enc
  by_cases h1 : c < 128
  · rw [if_pos h1]
    simp [rstep, rbase, h1, tlv]; omega
  · rw [if_neg h1]
    by_cases h2 : c < 2048
    · rw [if_pos h2]
      have e : rbase (192 + c / 64) = some (1, c / 64) := by unfold rbase; rw [if_neg (by omega), if_neg (by omega), if_pos (by omega)]; simp
      simp only [List.cons_append, List.nil_append, rstep, e, Option.bind_some, tlv]
      rw [if_neg (by omega), if_neg (by omega)]
      simp only [Option.bind_some]
      rw [if_neg (by omega)]
      simp; omega
    · rw [if_neg h2]
      by_cases h3 : c < 65536
      · rw [if_pos h3]
        have e : rbase (224 + c / 4096) = some (2, c / 4096) := by unfold rbase; rw [if_neg (by omega), if_neg (by omega), if_neg (by omega), if_pos (by omega)]; simp
        simp only [List.cons_append, List.nil_append, rstep, e, Option.bind_some, tlv]
        rw [if_neg (by omega), if_neg (by omega), if_neg (by omega), if_neg (by omega)]
        simp only [Option.bind_some]
        rw [if_neg (by omega)]
        simp; omega
      · rw [if_neg h3]
        have e : rbase (240 + c / 262144) = some (3, c / 262144) := by unfold rbase; rw [if_neg (by omega), if_neg (by omega), if_neg (by omega), if_neg (by omega), if_pos (by omega)]; simp
        simp only [List.cons_append, List.nil_append, rstep, e, Option.bind_some, tlv]
        rw [if_neg (by omega), if_neg (by omega), if_neg (by omega), if_neg (by omega), if_neg (by omega), if_neg (by omega)]
        simp only [Option.bind_some]
        rw [if_neg (by omega)]
        simp; omega

theorem rstep_bound (l : List Nat) (c n : Nat) (h : rstep l = some (c, n)) : c ≤ 1114111 ∧ 1 ≤ n ∧ n ≤ l.length := by
  match l, h with
  | [], h => simp [rstep] at h
  | b :: t, h =>
    simp only [rstep] at h
    obtain ⟨nb, h1, h2⟩ := Option.bind_eq_some_iff.1 h
    obtain ⟨v, h3, h4⟩ := Option.bind_eq_some_iff.1 h2
    split at h4
    · cases h4
    · simp only [Option.some.injEq, Prod.mk.injEq] at h4
      obtain ⟨rfl, rfl⟩ := h4
      have := tlv_len _ _ _ _ h3
      simp only [List.length_cons]
      omega

theorem us_len2 (c : Nat) : (u16 c).length ≤ 2 := by unfold u16; split <;> simp

theorem read_total (s : ByteArray) (hs : s.size ≤ 4398046511104) : ∀ (d i : Nat) (acc : List Nat) (K : Nat), s.size - i ≤ d → 20 + 9 * d ≤ K → acc.length + 2 * d ≤ 35184372088832 → (∀ x ∈ acc, x < 65536) →
    ∃ l ok, cameoref01_read.l0 K s (cI acc) (i : Int) = some (cI l, ok) ∧ (∀ x ∈ l, x < 65536) ∧ l.length ≤ acc.length + 2 * d
  | d, i, acc, K, hd, hK, ha, hx => by
    by_cases hi : i < s.size
    · obtain ⟨d, rfl⟩ : ∃ m, d = m + 1 := ⟨d - 1, by omega⟩
      have hst := read_step s (cI acc) i K hs hi (by rw [cI_length]; omega) (by omega)
      unfold Step at hst
      cases hr : rstep ((by_ s).drop i) with
      | none => rw [hr] at hst; exact ⟨[], false, hst, by simp, by simp⟩
      | some cn =>
        obtain ⟨c, n⟩ := cn
        rw [hr] at hst
        obtain ⟨k', hk', e⟩ := hst
        obtain ⟨b1, b2, b3⟩ := rstep_bound _ _ _ hr
        have hu := us_len2 c
        have ih := read_total s hs d (i + n) (acc ++ u16 c) k' (by omega) (by omega) (by simp; omega) (fun x hx' => by
          rcases List.mem_append.1 hx' with h | h
          · exact hx x h
          · exact u16_lt c b1 x h)
        obtain ⟨l, ok, e2, h2, h3⟩ := ih
        refine ⟨l, ok, ?_, h2, ?_⟩
        · rw [e, ← cI_append]; exact e2
        · simp only [List.length_append] at h3; omega
    · obtain ⟨K, rfl⟩ : ∃ m, K = m + 1 := ⟨K - 1, by omega⟩
      refine ⟨acc, true, ?_, hx, by omega⟩
      simp only [cameoref01_read.l0]
      rw [if_neg (by omega)]

theorem read_good (s : ByteArray) (hs : s.size ≤ 4398046511104) : ∀ (cs : List Nat) (i : Nat) (acc : List Nat) (K : Nat), (by_ s).drop i = cs.flatMap enc → i ≤ s.size → 20 + 9 * cs.length ≤ K → acc.length + 2 * cs.length ≤ 35184372088832 → (∀ c ∈ cs, c ≤ 1114111) →
    cameoref01_read.l0 K s (cI acc) (i : Int) = some (cI (acc ++ us cs), true)
  | [], i, acc, K, h, hi, hK, _, _ => by
    obtain ⟨K, rfl⟩ : ∃ m, K = m + 1 := ⟨K - 1, by omega⟩
    have := congrArg List.length h
    rw [List.length_drop, by_length] at this
    simp at this
    simp only [cameoref01_read.l0]
    rw [if_neg (by omega)]
    simp [us]
  | c :: cs, i, acc, K, h, hi, hK, ha, hc => by
    simp only [List.length_cons] at hK ha
    have h1 := hc c (by simp)
    have hl := enc_len c
    simp only [List.flatMap_cons] at h
    have hlen := congrArg List.length h
    rw [List.length_drop, by_length, List.length_append] at hlen
    have hst := read_step s (cI acc) i K hs (by omega) (by rw [cI_length]; omega) (by omega)
    unfold Step at hst
    rw [h, rstep_enc c h1] at hst
    obtain ⟨k', hk', e⟩ := hst
    have hd : (by_ s).drop (i + (enc c).length) = cs.flatMap enc := by
      rw [← List.drop_drop, h, List.drop_left]
    have hu := us_len2 c
    have ih := read_good s hs cs (i + (enc c).length) (acc ++ u16 c) k' hd (by omega) (by omega) (by simp; omega) (fun c' h' => hc c' (by simp [h']))
    rw [e, ← cI_append, ih]
    simp [us]

/-- Are bytes a string? -/
def val (b : List Nat) : Bool := (scan (b.length + 1) b 0).2
/-- The points of bytes. -/
def pts (b : List Nat) : List Nat := (scan (b.length + 1) b 0).1

theorem val_true (s : ByteArray) (h : val (by_ s) = true) : by_ s = (pts (by_ s)).flatMap enc ∧ Gd 0 (pts (by_ s)) := scan_sound _ _ _ (by_lt s) (by omega) h
theorem val_of (s : ByteArray) (cs : List Nat) (hg : Gd 0 cs) (h : by_ s = cs.flatMap enc) : val (by_ s) = true ∧ pts (by_ s) = cs := by
  unfold val pts
  rw [h, scan_complete _ cs 0 hg (by omega)]
  exact ⟨rfl, rfl⟩
theorem good_le : ∀ (cs : List Nat) (last : Nat), Gd last cs → ∀ c ∈ cs, c ≤ 1114111
  | [], _, _, c, hc => by simp at hc
  | a :: cs, last, h, c, hc => by
    obtain ⟨h1, h2, h3⟩ := h
    rcases List.mem_cons.1 hc with e | e
    · subst e; exact h1
    · exact good_le cs a h3 c e
theorem pts_len (cs : List Nat) : cs.length ≤ (cs.flatMap enc).length := by
  induction cs with
  | nil => simp
  | cons c cs ih => have := enc_len c; simp only [List.flatMap_cons, List.length_append, List.length_cons]; omega
theorem us_lt (cs : List Nat) (h : ∀ c ∈ cs, c ≤ 1114111) : ∀ x ∈ us cs, x < 65536 := by
  intro x hx
  simp only [us, List.mem_flatMap] at hx
  obtain ⟨c, hc, hx⟩ := hx
  exact u16_lt c (h c hc) x hx
theorem us_le (cs : List Nat) : (us cs).length ≤ 2 * cs.length := by
  induction cs with
  | nil => simp [us]
  | cons c cs ih => have := us_len2 c; simp only [us, List.flatMap_cons, List.length_append, List.length_cons] at *; omega
theorem toList_by (s t : ByteArray) : (s.toList = t.toList) ↔ by_ s = by_ t := by
  rw [Lib.toList_data, Lib.toList_data]
  constructor
  · intro h; unfold by_; rw [h]
  · intro h; rw [by_inj h]

theorem read_f (s : ByteArray) (hs : s.size ≤ 1099511627776) (K : Nat) (hK : 40 + 9 * s.size ≤ K) (h : val (by_ s) = true) : cameoref01_read.f K s = some (cI (us (pts (by_ s))), true) := by
  obtain ⟨h1, h2⟩ := val_true s h
  have hl : (pts (by_ s)).length ≤ s.size := by have := pts_len (pts (by_ s)); rw [← h1, by_length] at this; exact this
  have := read_good s (by omega) (pts (by_ s)) 0 [] K (by simpa using h1) (by omega) (by omega) (by simp; omega) (good_le _ _ h2)
  unfold cameoref01_read.f
  simpa [cI] using this

theorem Valid_eq (s : ByteArray) (hs : s.size ≤ 1099511627776) (K : Nat) (hK : 40 + 9 * s.size ≤ K) : cameoref01_Valid.f K s = some (val (by_ s)) := by
  unfold cameoref01_Valid.f
  cases hv : val (by_ s) with
  | true =>
    obtain ⟨h1, h2⟩ := val_true s hv
    have hl : (pts (by_ s)).length ≤ s.size := by have := pts_len (pts (by_ s)); rw [← h1, by_length] at this; exact this
    have hu := us_le (pts (by_ s))
    have hlt := us_lt _ (good_le _ _ h2)
    rw [read_f s hs K hK hv]
    simp only [Option.bind_some, if_true]
    rw [Of_eq _ K (by omega) (by omega) hlt]
    simp only [Option.bind_some]
    congr 1
    rw [beq_iff_eq, toList_by, by_ofS _ hlt, of, row_us _ _ h2]
    exact h1.symm
  | false =>
    obtain ⟨l, ok, e, hx, hl⟩ := read_total s (by omega) s.size 0 [] K (by omega) (by omega) (by simp; omega) (by simp)
    have e' : cameoref01_read.f K s = some (cI l, ok) := by unfold cameoref01_read.f; simpa [cI] using e
    rw [e']
    simp only [Option.bind_some]
    cases ok with
    | false => rfl
    | true =>
      simp only [if_true]
      simp only [List.length_nil] at hl
      rw [Of_eq l K (by omega) (by omega) hx]
      simp only [Option.bind_some]
      congr 1
      cases hq : ((ofS l).toList == s.toList) with
      | false => rfl
      | true =>
        exfalso
        rw [beq_iff_eq, toList_by, by_ofS l hx] at hq
        have := (val_of s (row l) (row_good0 l hx) hq.symm).1
        rw [hv] at this
        cases this

/-- The reference's Units. -/
theorem Units_eq (s : ByteArray) (hs : s.size ≤ 1099511627776) (K : Nat) (hK : 40 + 9 * s.size ≤ K) : cameoref01_Units.f K s = some (if val (by_ s) = true then (cI (us (pts (by_ s))), 0) else ([], 10)) := by
  unfold cameoref01_Units.f
  rw [Valid_eq s hs K hK]
  simp only [Option.bind_some]
  cases hv : val (by_ s) with
  | true => simp only [if_true]; rw [read_f s hs K hK hv]; rfl
  | false => rfl
end Go.Proofs.YtnknfffldgkgcaaGreatDoor.PR

/- Plain: the program's Of, Units, Valid in lists: the reference's. -/
namespace Go.Proofs.YtnknfffldgkgcaaGreatDoor.PR
open Go.RowKit Go.Proofs.YtnknfffldgkgcaaGreatDoorW.PrintWords Go.Proofs.YtnknfffldgkgcaaGreatDoor.U Go.Proofs.YtnknfffldgkgcaaGreatDoor.Utf

/-! ### the points that the program walks over -/
theorem by_tl (s : ByteArray) (i : Nat) : by_ (Pt.tl s i) = (by_ s).drop i := by
  unfold by_ Pt.tl
  rw [← List.map_drop]
  congr 1
  simp [ByteArray.data_extract]
  exact List.take_of_length_le (by simp)
theorem B_getD (s : ByteArray) (k : Nat) : Pt.B s k = (by_ s).getD k 0 := by
  unfold Pt.B by_
  rw [List.getD_eq_getElem?_getD, List.getElem?_map, Array.getElem?_toList]
  by_cases h : k < s.size
  · rw [show s.data[k]? = some (s.data[k]'h) from Array.getElem?_eq_getElem h]
    simp only [Option.map_some, Option.getD_some]
    congr 1
    exact getElem!_pos s.data k h
  · rw [show s.data[k]? = none from Array.getElem?_eq_none (by exact Nat.le_of_not_lt h)]
    simp only [Option.map_none, Option.getD_none]
    have : s.get! k = default := getElem!_neg s.data k h
    rw [this]; rfl
theorem pt_eq (s : ByteArray) : Pt.pt s = Utf.pt (by_ s) := by
  unfold Pt.pt Utf.pt
  rw [B_getD, B_getD, B_getD, B_getD, by_length]
  rfl
theorem scan_eq (s : ByteArray) : ∀ f i last, (Pt.scan s f i last).2 = (Utf.scan f ((by_ s).drop i) last).2 ∧ (Pt.scan s f i last).1.map (·.2) = (Utf.scan f ((by_ s).drop i) last).1
  | 0, _, _ => ⟨rfl, rfl⟩
  | f + 1, i, last => by
    simp only [Pt.scan, Utf.scan]
    rw [pt_eq, by_tl]
    have hl : ((by_ s).drop i).length = s.size - i := by rw [List.length_drop, by_length]
    by_cases h1 : s.size ≤ i
    · rw [if_pos h1, if_pos (show ((by_ s).drop i).length = 0 by omega)]; exact ⟨rfl, rfl⟩
    · have hz : ¬ ((by_ s).drop i).length = 0 := by omega
      rw [if_neg h1, if_neg hz]
      by_cases h2 : (Utf.pt ((by_ s).drop i)).2 = 0 ∨ (Utf.hi last = true ∧ Utf.lo (Utf.pt ((by_ s).drop i)).1 = true)
      · have h2' : ((Utf.pt ((by_ s).drop i)).2 = 0 ∨ (Pt.hi last = true ∧ Pt.lo (Utf.pt ((by_ s).drop i)).1 = true)) := h2
        rw [if_pos h2', if_pos h2]; exact ⟨rfl, rfl⟩
      · have h2' : ¬ ((Utf.pt ((by_ s).drop i)).2 = 0 ∨ (Pt.hi last = true ∧ Pt.lo (Utf.pt ((by_ s).drop i)).1 = true)) := h2
        rw [if_neg h2', if_neg h2]
        have ih := scan_eq s f (i + (Utf.pt ((by_ s).drop i)).2) (Utf.pt ((by_ s).drop i)).1
        rw [← List.drop_drop] at ih
        exact ⟨ih.1, by simp only [List.map_cons]; rw [ih.2]⟩
theorem all_val (s : ByteArray) : (Pt.all s).2 = val (by_ s) := by
  have := (scan_eq s (s.size + 1) 0 0).1
  unfold Pt.all val
  rw [by_length]; simpa using this
theorem all_pts (s : ByteArray) : (Pt.all s).1.map (·.2) = pts (by_ s) := by
  have := (scan_eq s (s.size + 1) 0 0).2
  unfold Pt.all pts
  rw [by_length]; simpa using this
theorem pu16 (r : Nat) : Pt.u16 r = cI (u16 r) := by unfold Pt.u16 u16; split <;> rfl
theorem all_us (s : ByteArray) : Pt.us (Pt.all s).1 = cI (us (pts (by_ s))) := by
  rw [← all_pts]
  unfold Pt.us us
  generalize (Pt.all s).1 = l
  induction l with
  | nil => rfl
  | cons x l ih => simp only [List.flatMap_cons, List.map_cons, cI_append]; rw [ih, pu16]

/-- The program's Units. -/
theorem pUnits_eq (s : ByteArray) (hs : s.size ≤ 1099511627776) : units_Units.f s = some (if val (by_ s) = true then (cI (us (pts (by_ s))), 0) else ([], 10)) := by
  unfold units_Units.f
  rw [if_pos hs, all_val, all_us]
  split <;> rfl
theorem pValid_eq (s : ByteArray) (hs : s.size ≤ 140737488351232) : units_Valid.f s = some (val (by_ s)) := by
  unfold units_Valid.f
  rw [if_pos hs, all_val]

end Go.Proofs.YtnknfffldgkgcaaGreatDoor.PR
