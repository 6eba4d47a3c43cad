/- Plain: what the reference's functions of chapter 1 compute, in lists. -/
import Derived.Test.YtgnifckehopjhaaDoorUx2
import Derived.Test.YtgnifckehopjhaaDoorUtf
namespace Go.Proofs.YtgnifckehopjhaaDoor.PR
open Go.RowKit Go.Proofs.YtgnifckehopjhaaDoorW.PrintWords Go.Proofs.YtgnifckehopjhaaDoor.U Go.Proofs.YtgnifckehopjhaaDoor.Utf

/-- Naturals as integers. -/
def cI (l : List Nat) : List Int := l.map fun (n : Nat) => (n : Int)
theorem cI_length (l : List Nat) : (cI l).length = l.length := by simp [cI]
theorem cI_append (l m : List Nat) : cI (l ++ m) = cI l ++ cI m := by simp [cI]
theorem cI_inj {l m : List Nat} (h : cI l = cI m) : l = m := by
  have := congrArg (List.map Int.toNat) h
  simpa [cI, Function.comp_def] using this
/-- A string's bytes. -/
def by_ (s : ByteArray) : List Nat := s.data.toList.map UInt8.toNat
theorem by_length (s : ByteArray) : (by_ s).length = s.size := by simp [by_]
theorem by_lt (s : ByteArray) : ∀ x ∈ by_ s, x < 256 := by
  intro x hx
  simp only [by_, List.mem_map] at hx
  obtain ⟨y, _, rfl⟩ := hx
  exact y.toNat_lt
theorem by_inj {s t : ByteArray} (h : by_ s = by_ t) : s = t := by
  have h1 : s.data.toList = t.data.toList := by
    have := congrArg (List.map UInt8.ofNat) h
    simpa [by_, Function.comp_def] using this
  cases s; cases t
  simp only [Array.toList_inj] at h1
  rw [ByteArray.mk.injEq]; exact h1
theorem rd_cI (l : List Nat) (i : Nat) (h : i < l.length) : rd (cI l) (i : Int) = ((l[i] : Nat) : Int) := by
  unfold rd cI; simp [h]
theorem rd_mid (p : List Nat) (a : Nat) (t : List Nat) : rd (cI (p ++ a :: t)) (p.length : Int) = (a : Int) := by
  rw [rd_cI _ _ (by simp)]; simp
theorem rd_mid1 (p : List Nat) (a b : Nat) (t : List Nat) : rd (cI (p ++ a :: b :: t)) ((p.length : Int) + 1) = (b : Int) := by
  have e : ((p.length : Int) + 1) = ((p.length + 1 : Nat) : Int) := by omega
  rw [e, rd_cI _ _ (by simp)]; simp
theorem bt_mid (s : ByteArray) (i : Nat) (a : Nat) (t : List Nat) (h : (by_ s).drop i = a :: t) : bt s (i : Int) = (a : Int) := by
  have hl : i < s.size := by
    have := congrArg List.length h
    rw [List.length_drop, by_length] at this
    simp at this; omega
  have e := bt_at s (i : Int) (by simpa using hl)
  rw [← e]
  have h2 : (by_ s)[i]? = some a := by
    have := congrArg (·[0]?) h
    simpa using this
  simp only [by_, List.getElem?_map, Option.map_eq_some_iff] at h2
  obtain ⟨y, hy, rfl⟩ := h2
  simp only [Int.toNat_natCast]
  have h3 : s.data.toList[i]? = some s[i] := by
    rw [Array.getElem?_toList]
    exact Array.getElem?_eq_getElem hl
  rw [h3] at hy
  cases hy; rfl
theorem w64 {x : Int} (h0 : -9223372036854775808 ≤ x) (h1 : x < 9223372036854775808) : wrap64 x = x := by unfold wrap64; omega
theorem toNum (l : List Nat) (h : ∀ x ∈ l, x < 256) : by_ (strOfNums (cI l)) = l := by
  induction l with
  | nil => rfl
  | cons a l ih =>
    have h1 := h a (by simp)
    have h2 := ih (fun x hx => h x (by simp [hx]))
    simp only [by_, strOfNums, cI, List.map_map, List.map_cons, Function.comp_def, Int.toNat_natCast] at h2 ⊢
    rw [h2]
    congr 1
    exact UInt8.toNat_ofNat_of_lt' h1

/-! ### Row -/
def rowS : Nat → List Nat → List S157
  | _, [] => []
  | i, [a] => [⟨(i : Int), (a : Int)⟩]
  | i, a :: b :: t => if hi a && lo b then ⟨(i : Int), ((65536 + 1024 * (a - 55296) + (b - 56320) : Nat) : Int)⟩ :: rowS (i + 2) t else ⟨(i : Int), (a : Int)⟩ :: rowS (i + 1) (b :: t)
theorem rowS_snd : ∀ (i : Nat) (l : List Nat), (rowS i l).map (·.f1) = cI (row l)
  | _, [] => rfl
  | _, [a] => rfl
  | i, a :: b :: t => by
    simp only [rowS, row]
    split
    · simp only [List.map_cons, cI]; rw [rowS_snd]; rfl
    · simp only [List.map_cons, cI]; rw [rowS_snd]; rfl
theorem rowS_len (i : Nat) (l : List Nat) : (rowS i l).length = (row l).length := by
  have := congrArg List.length (rowS_snd i l)
  simpa [cI] using this
theorem row_len : ∀ l : List Nat, (row l).length ≤ l.length
  | [] => by simp [row]
  | [a] => by simp [row]
  | a :: b :: t => by
    simp only [row]
    split
    · have := row_len t; simp only [List.length_cons]; omega
    · have := row_len (b :: t); simp only [List.length_cons] at this ⊢; omega

theorem high_eq (a : Nat) : cameoref01_high.f (a : Int) = some (hi a) := by
  unfold cameoref01_high.f hi
  by_cases h : 55296 ≤ a
  · rw [if_pos (by omega), decide_eq_true h, Bool.true_and]
    exact congrArg some (decide_eq_decide.2 (by omega))
  · rw [if_neg (by omega), decide_eq_false h]; rfl
theorem low_eq (a : Nat) : cameoref01_low.f (a : Int) = some (lo a) := by
  unfold cameoref01_low.f lo
  by_cases h : 56320 ≤ a
  · rw [if_pos (by omega), decide_eq_true h, Bool.true_and]
    exact congrArg some (decide_eq_decide.2 (by omega))
  · rw [if_neg (by omega), decide_eq_false h]; rfl

theorem Row_l0 : ∀ (s p : List Nat) (acc : List S157) (k : Nat), s.length < k → (p ++ s).length ≤ 4398046511104 → (∀ x ∈ s, x < 65536) → acc.length ≤ p.length →
    cameoref01_Row.l0 k (cI (p ++ s)) acc (p.length : Int) = some (acc ++ rowS p.length s)
  | [], p, acc, k, hk, _, _, _ => by
    obtain ⟨k, rfl⟩ : ∃ m, k = m + 1 := ⟨k - 1, by omega⟩
    simp only [cameoref01_Row.l0, rowS, List.append_nil]
    rw [if_neg (by rw [cI_length]; omega)]
  | [a], p, acc, k, hk, hb, hx, ha => by
    obtain ⟨k, rfl⟩ : ∃ m, k = m + 1 := ⟨k - 1, by omega⟩
    have h1 := hx a (by simp)
    simp only [List.length_append, List.length_cons, List.length_nil] at hb hk
    simp only [cameoref01_Row.l0, rowS]
    rw [if_pos (by rw [cI_length]; simp; omega), if_pos (by omega), rd_mid, high_eq]
    simp only [Option.bind_some]
    have e1 : wrap64 ((p.length : Int) + 1) = ((p ++ [a]).length : Int) := by rw [w64 (by omega) (by omega)]; simp
    have e2 : wrap64 ((a : Int)) = (a : Int) := w64 (by omega) (by omega)
    have e3 : cameoref01_Row.l0 k (cI (p ++ [a])) (acc ++ [⟨(p.length : Int), (a : Int)⟩]) ((p ++ [a]).length : Int) = some ((acc ++ [⟨(p.length : Int), (a : Int)⟩]) ++ rowS (p ++ [a]).length []) := by
      have := Row_l0 [] (p ++ [a]) (acc ++ [⟨(p.length : Int), (a : Int)⟩]) k (by simp; omega) (by simp; omega) (by simp) (by simp; omega)
      simpa using this
    rw [e1, e2]
    have e4 : ¬ ((p ++ [a]).length : Int) < ((cI (p ++ [a])).length : Int) := by rw [cI_length]; omega
    have e5 : acc.length < 8796093022208 := by omega
    rw [if_neg e4, if_pos e5, e3]
    split <;> simp [rowS]
  | a :: b :: t, p, acc, k, hk, hb, hx, ha => by
    obtain ⟨k, rfl⟩ : ∃ m, k = m + 1 := ⟨k - 1, by omega⟩
    have h1 := hx a (by simp)
    have h2 := hx b (by simp)
    simp only [List.length_append, List.length_cons] at hb hk
    have e1 : wrap64 ((p.length : Int) + 1) = (p.length : Int) + 1 := w64 (by omega) (by omega)
    have e2 : wrap64 ((a : Int)) = (a : Int) := w64 (by omega) (by omega)
    have i1 := Row_l0 (b :: t) (p ++ [a]) (acc ++ [⟨(p.length : Int), (a : Int)⟩]) k (by simp; omega) (by simp; omega) (fun x h => hx x (by simp only [List.mem_cons] at h ⊢; exact .inr h)) (by simp; omega)
    have i1' : cameoref01_Row.l0 k (cI (p ++ a :: b :: t)) (acc ++ [⟨(p.length : Int), (a : Int)⟩]) ((p.length : Int) + 1) = some (acc ++ (⟨(p.length : Int), (a : Int)⟩ :: rowS (p.length + 1) (b :: t))) := by
      have e : ((p ++ [a]).length : Int) = (p.length : Int) + 1 := by simp
      rw [e] at i1
      simpa [List.append_assoc] using i1
    simp only [cameoref01_Row.l0, rowS]
    rw [if_pos (by rw [cI_length]; simp; omega), if_pos (by omega), rd_mid, high_eq]
    simp only [Option.bind_some]
    rw [e1, e2]
    have e5 : acc.length < 8796093022208 := by omega
    have e6 : (p.length : Int) + 1 < ((cI (p ++ a :: b :: t)).length : Int) := by rw [cI_length]; simp; omega
    have e7 : (0 : Int) ≤ (p.length : Int) + 1 := by omega
    rw [if_pos e6, if_pos e7, rd_mid1, low_eq]
    simp only [Option.bind_some, if_pos e5]
    cases ha' : hi a
    · simp only [Bool.false_eq_true, if_false, Bool.false_and]
      rw [i1']
    · cases hb' : lo b
      · simp only [Bool.false_eq_true, if_false, Bool.and_false, if_true]
        rw [i1']
      · simp only [if_true, Bool.and_self]
        simp only [hi, lo, Bool.and_eq_true, decide_eq_true_eq] at ha' hb'
        have i2 := Row_l0 t (p ++ [a, b]) (acc ++ [⟨(p.length : Int), ((65536 + 1024 * (a - 55296) + (b - 56320) : Nat) : Int)⟩]) k (by omega) (by simp; omega) (fun x h => hx x (by simp [h])) (by simp; omega)
        have e : ((p ++ [a, b]).length : Int) = wrap64 ((p.length : Int) + 1 + 1) := by rw [w64 (by omega) (by omega)]; simp; omega
        rw [e] at i2
        have v : wrap64 ((wrap64 ((wrap64 (65536 + (wrap64 (1024 * (wrap64 ((a : Int) - 55296)))))) + (wrap64 ((b : Nat) : Int)))) - 56320) = ((65536 + 1024 * (a - 55296) + (b - 56320) : Nat) : Int) := by
          unfold wrap64; omega
        rw [v]
        simpa [List.append_assoc] using i2

theorem Row_eq (l : List Nat) (k : Nat) (hk : l.length < k) (hb : l.length ≤ 4398046511104) (hx : ∀ x ∈ l, x < 65536) : cameoref01_Row.f k (cI l) = some (rowS 0 l) := by
  unfold cameoref01_Row.f
  simpa using Row_l0 l [] [] k hk (by simpa using hb) hx (by simp)

/-! ### put, Of -/
theorem td (c k : Nat) : Int.tdiv (c : Int) (k : Int) = ((c / k : Nat) : Int) := by rw [Int.tdiv_eq_ediv_of_nonneg (by omega)]; omega
theorem tm (c k : Nat) : Int.tmod (c : Int) (k : Int) = ((c % k : Nat) : Int) := by rw [Int.tmod_eq_emod_of_nonneg (by omega)]; omega

theorem b8 {x : Int} {n : Nat} (h : x = (n : Int)) (hn : n < 256) : (wrap64 x) % 256 = (n : Int) := by subst h; unfold wrap64; omega
theorem w64n (n : Nat) (h : n < 2147483648) : wrap64 (n : Int) = (n : Int) := by unfold wrap64; omega

theorem put1 (l : List Int) (c : Nat) (hl1 : l.length < 70368744177664) (h1 : c < 128) : cameoref01_put.f l (c : Int) = some (l ++ cI (enc c)) := by
  unfold cameoref01_put.f enc
  rw [if_pos (by omega), if_pos (by omega), if_pos h1]
  have : (c : Int) % 256 = (c : Int) := by omega
  rw [this]; rfl
theorem put2 (l : List Int) (c : Nat) (hl1 : l.length < 70368744177664) (h1 : ¬ c < 128) (h2 : c < 2048) : cameoref01_put.f l (c : Int) = some (l ++ cI (enc c)) := by
  unfold cameoref01_put.f enc
  rw [if_neg (by omega), if_pos (by omega), if_neg h1, if_pos h2]
  have a1 : Int.tdiv (c : Int) 64 = ((c / 64 : Nat) : Int) := td c 64
  have a4 : Int.tmod (c : Int) 64 = ((c % 64 : Nat) : Int) := tm c 64
  rw [a1, a4, w64n _ (by omega)]
  have e1 : (wrap64 (192 + ((c / 64 : Nat) : Int))) % 256 = ((192 + c / 64 : Nat) : Int) := b8 (by omega) (by omega)
  have e2 : (wrap64 (128 + ((c % 64 : Nat) : Int))) % 256 = ((128 + c % 64 : Nat) : Int) := b8 (by omega) (by omega)
  rw [e1, e2]
  simp only [Option.bind_some, List.length_cons, List.length_nil]
  rw [if_pos (by omega)]
  rfl
theorem put3 (l : List Int) (c : Nat) (hl1 : l.length < 70368744177664) (h1 : ¬ c < 2048) (h2 : c < 65536) : cameoref01_put.f l (c : Int) = some (l ++ cI (enc c)) := by
  unfold cameoref01_put.f enc
  rw [if_neg (by omega), if_neg (by omega), if_pos (by omega), if_neg (by omega), if_neg h1, if_pos h2]
  have a1 : Int.tdiv (c : Int) 64 = ((c / 64 : Nat) : Int) := td c 64
  have a2 : Int.tdiv (c : Int) 4096 = ((c / 4096 : Nat) : Int) := td c 4096
  have a4 : Int.tmod (c : Int) 64 = ((c % 64 : Nat) : Int) := tm c 64
  have b1 : Int.tmod ((c / 64 : Nat) : Int) 64 = ((c / 64 % 64 : Nat) : Int) := tm (c / 64) 64
  rw [a1, a2, a4, w64n (c / 64) (by omega), w64n (c / 4096) (by omega), b1]
  have e1 : (wrap64 (224 + ((c / 4096 : Nat) : Int))) % 256 = ((224 + c / 4096 : Nat) : Int) := b8 (by omega) (by omega)
  have e2 : (wrap64 (128 + ((c / 64 % 64 : Nat) : Int))) % 256 = ((128 + c / 64 % 64 : Nat) : Int) := b8 (by omega) (by omega)
  have e3 : (wrap64 (128 + ((c % 64 : Nat) : Int))) % 256 = ((128 + c % 64 : Nat) : Int) := b8 (by omega) (by omega)
  rw [e1, e2, e3]
  simp only [Option.bind_some, List.length_cons, List.length_nil]
  rw [if_pos (by omega)]
  rfl
theorem put4 (l : List Int) (c : Nat) (hl1 : l.length < 70368744177664) (h1 : ¬ c < 65536) (h2 : c ≤ 1114111) : cameoref01_put.f l (c : Int) = some (l ++ cI (enc c)) := by
  unfold cameoref01_put.f enc
  rw [if_neg (by omega), if_neg (by omega), if_neg (by omega), if_neg (by omega), if_neg (by omega), if_neg h1]
  have a1 : Int.tdiv (c : Int) 64 = ((c / 64 : Nat) : Int) := td c 64
  have a2 : Int.tdiv (c : Int) 4096 = ((c / 4096 : Nat) : Int) := td c 4096
  have a3 : Int.tdiv (c : Int) 262144 = ((c / 262144 : Nat) : Int) := td c 262144
  have a4 : Int.tmod (c : Int) 64 = ((c % 64 : Nat) : Int) := tm c 64
  have b1 : Int.tmod ((c / 64 : Nat) : Int) 64 = ((c / 64 % 64 : Nat) : Int) := tm (c / 64) 64
  have b2 : Int.tmod ((c / 4096 : Nat) : Int) 64 = ((c / 4096 % 64 : Nat) : Int) := tm (c / 4096) 64
  rw [a1, a2, a3, a4, w64n (c / 64) (by omega), w64n (c / 4096) (by omega), w64n (c / 262144) (by omega), b1, b2]
  have e1 : (wrap64 (240 + ((c / 262144 : Nat) : Int))) % 256 = ((240 + c / 262144 : Nat) : Int) := b8 (by omega) (by omega)
  have e4 : (wrap64 (128 + ((c / 4096 % 64 : Nat) : Int))) % 256 = ((128 + c / 4096 % 64 : Nat) : Int) := b8 (by omega) (by omega)
  have e2 : (wrap64 (128 + ((c / 64 % 64 : Nat) : Int))) % 256 = ((128 + c / 64 % 64 : Nat) : Int) := b8 (by omega) (by omega)
  have e3 : (wrap64 (128 + ((c % 64 : Nat) : Int))) % 256 = ((128 + c % 64 : Nat) : Int) := b8 (by omega) (by omega)
  rw [e1, e2, e3, e4]
  simp only [Option.bind_some, List.length_cons, List.length_nil]
  rw [if_pos (by omega)]
  rfl
theorem put_eq (l : List Int) (c : Nat) (hl : l.length < 70368744177664) (hc : c ≤ 1114111) : cameoref01_put.f l (c : Int) = some (l ++ cI (enc c)) := by
  by_cases h1 : c < 128
  · exact put1 l c hl h1
  · by_cases h2 : c < 2048
    · exact put2 l c hl h1 h2
    · by_cases h3 : c < 65536
      · exact put3 l c hl h2 h3
      · exact put4 l c hl h3 hc

theorem enc_all (cs : List Nat) : (cs.flatMap enc).length ≤ 4 * cs.length := by
  induction cs with
  | nil => simp
  | cons c cs ih => have := enc_len c; simp only [List.flatMap_cons, List.length_append, List.length_cons]; omega

theorem Of_l0 : ∀ (s p : List S157) (cs : List Nat) (acc : List Int) (k : Nat), s.length < k → (p ++ s).length ≤ 4398046511104 → acc.length ≤ 4 * p.length → s.map (·.f1) = cI cs → (∀ c ∈ cs, c ≤ 1114111) →
    cameoref01_Of.l0 k acc (p ++ s) (p.length : Int) = some (strOfNums (acc ++ cI (cs.flatMap enc)))
  | [], p, cs, acc, k, hk, _, _, hm, _ => by
    obtain ⟨k, rfl⟩ : ∃ m, k = m + 1 := ⟨k - 1, by omega⟩
    have : cs = [] := by cases cs with
      | nil => rfl
      | cons c cs => simp [cI] at hm
    subst this
    simp only [cameoref01_Of.l0, List.append_nil]
    rw [if_neg (by omega)]
    simp [cI]
  | x :: s, p, cs, acc, k, hk, hb, ha, hm, hc => by
    obtain ⟨k, rfl⟩ : ∃ m, k = m + 1 := ⟨k - 1, by omega⟩
    match cs, hm with
    | [], hm => simp [cI] at hm
    | c :: cs, hm =>
      simp only [List.map_cons, cI, List.cons.injEq] at hm
      obtain ⟨hx, hm⟩ := hm
      have h1 := hc c (by simp)
      have hl := enc_len c
      simp only [List.length_append, List.length_cons] at hb hk
      have ih := Of_l0 s (p ++ [x]) cs (acc ++ cI (enc c)) k (by omega) (by simp; omega) (by simp [cI_length]; omega) hm (fun c' h => hc c' (by simp [h]))
      simp only [cameoref01_Of.l0]
      have r : (rd_T157 (p ++ x :: s) (p.length : Int)).f1 = (c : Int) := by
        unfold rd_T157; simp [hx]
      rw [if_pos (by simp; omega), if_pos (by omega), r, put_eq _ _ (by omega) h1]
      simp only [Option.bind_some]
      have e : ((p ++ [x]).length : Int) = wrap64 ((p.length : Int) + 1) := by rw [w64 (by omega) (by omega)]; simp
      rw [e] at ih
      simpa [List.append_assoc, cI_append] using ih

/-- The bytes of a row, as a string. -/
def ofS (l : List Nat) : ByteArray := strOfNums (cI (of l))
theorem rowle (l : List Nat) (hx : ∀ x ∈ l, x < 65536) : ∀ c ∈ row l, c ≤ 1114111 := by
  have h := row_good0 l hx
  generalize row l = cs at h
  revert h
  generalize (0 : Nat) = last
  intro h c hc
  induction cs generalizing last with
  | nil => simp at hc
  | cons a cs ih =>
    obtain ⟨h1, h2, h3⟩ := h
    rcases List.mem_cons.1 hc with e | e
    · subst e; exact h1
    · exact ih a h3 e
theorem of_lt (l : List Nat) (hx : ∀ x ∈ l, x < 65536) : ∀ b ∈ of l, b < 256 := by
  intro b hb
  simp only [of, List.mem_flatMap] at hb
  obtain ⟨c, hc, hb⟩ := hb
  exact enc_lt c (rowle l hx c hc) b hb
theorem by_ofS (l : List Nat) (hx : ∀ x ∈ l, x < 65536) : by_ (ofS l) = of l := toNum _ (of_lt l hx)

theorem Of_eq (l : List Nat) (k : Nat) (hk : l.length < k) (hb : l.length ≤ 4398046511104) (hx : ∀ x ∈ l, x < 65536) : cameoref01_Of.f k (cI l) = some (ofS l) := by
  unfold cameoref01_Of.f
  rw [Row_eq l k hk hb hx]
  simp only [Option.bind_some]
  have hr := row_len l
  have := Of_l0 (rowS 0 l) [] (row l) [] k (by rw [rowS_len]; omega) (by simp [rowS_len]; omega) (by simp) (rowS_snd 0 l) (rowle l hx)
  simpa [ofS, of] using this
end Go.Proofs.YtgnifckehopjhaaDoor.PR
