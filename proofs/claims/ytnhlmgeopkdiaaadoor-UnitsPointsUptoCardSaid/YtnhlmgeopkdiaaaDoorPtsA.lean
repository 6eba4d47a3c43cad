/- A range over a function whose iterator keeps cells of its own: a law for it, in a round or out of one. -/
import Derived.RangeFuncNested
import Derived.RangeFuncBound
import Derived.RangeFuncCalls
import Derived.RangeFuncLeaves
import Derived.WalkKit
import Derived.OwnWalkIn
import Derived.TacticsInMore
import Derived.LoopNIn
import Derived.LoopIn
import Derived.Test.YtnhlmgeopkdiaaaDoorWalkC
namespace Go.Proofs.YtnhlmgeopkdiaaaDoor
open Go.RowKit

/-- It abides whatever is done to blocks at or beyond B. -/
def Abd {β : Type} (B : Nat) (J : β → World → Prop) : Prop := ∀ s W W', J s W → Below B W W' → J s W'
/-- What lies at or beyond B lies as it lay. -/
structure KpC (B : Nat) (W W' : World) : Prop where
  size : W.heap.size ≤ W'.heap.size
  same : ∀ b, B ≤ b → b < W.heap.size → W'.heap[b]? = W.heap[b]?
theorem KpC.refl (B : Nat) (W : World) : KpC B W W := ⟨Nat.le_refl _, fun _ _ _ => rfl⟩
theorem KpC.trans {B : Nat} {X Y Z : World} (h : KpC B X Y) (k : KpC B Y Z) : KpC B X Z :=
  ⟨Nat.le_trans h.size k.size, fun b hb hl => (k.same b hb (Nat.lt_of_lt_of_le hl h.size)).trans (h.same b hb hl)⟩
theorem KpC.mono {B B' : Nat} {X Y : World} (h : KpC B X Y) (hB : B ≤ B') : KpC B' X Y := ⟨h.size, fun b hb hl => h.same b (Nat.le_trans hB hb) hl⟩
theorem KpC.of_below {B : Nat} {W W' : World} (h : Below W.heap.size W W') : KpC B W W' := ⟨h.size, fun b _ hl => h.block b hl⟩
theorem below_putObj (W : World) (l : Nat) (o : Obj) (h : l ≤ W.heap.size) : Below l W (W.putObj l o) :=
  (Below.refl l W).grown (grownBy_putObj' W l o) h (fun k e => by cases e; exact Nat.le_refl _)
theorem KpC.putObj (W : World) (l : Nat) (o : Obj) : KpC (l + 1) W (W.putObj l o) :=
  ⟨(grownBy_putObj' W l o).size, fun b hb _ => World.putObj_heap_other (by omega)⟩

def ownPostC {α : Type} (B : Nat) (I : List α → World → Prop) (Ix : Code → List α → World → Prop) (xs : List α) (W : World) : Exit → Act → World → Prop
  | .normal, _, W' => KpC B W W' ∧ I xs W'
  | .ret, _, W' => KpC B W W' ∧ Ix .ret xs W'
  | .exit id, _, W' => KpC B W W' ∧ Ix (.exit id) xs W'
  | .goto t, _, W' => KpC B W W' ∧ Ix (.goto t) xs W'
  | .panic _, _, _ => False
  | .outgrown, _, _ => False

/-- What an iterator owes that is called where block l was the last to be laid: `full` is what it gives. -/
def IterC {α : Type} (F : Fence) (n : Nat) (P : Program) (g : Nat) (lb : Array Value) (encs : α → Array Value) (full : List α) (w0 w : World) (l : Nat) : Prop :=
  ∀ (J Jx : List α → World → Prop) (W1 : World), Below w.heap.size w W1 → W1.heap.size = l + 1 → Abd (l + 1) J → Abd (l + 1) Jx → (∀ pre W, J pre W → Below w0.heap.size w0 W) →
    (∀ pre x W, J pre W → pre ++ [x] <+: full → YieldAt F (n - 1) P l (encs x) W fun e W' =>
      (e = .returned (.bool true) ∧ J (pre ++ [x]) W' ∧ KpC (l + 1) W W') ∨ (e = .returned (.bool false) ∧ Jx (pre ++ [x]) W')) →
    J [] W1 →
    CallsIn F n P g (#[.func (.yield l) #[] #[]] ++ lb) W1 fun e W' => (∃ v, e = .returned v) ∧ (J full W' ∨ (∃ pre, pre <+: full ∧ Jx pre W'))

theorem rangeC {α : Type} {F : Fence} {n : Nat} {P : Program} {g : Operand} {ps : Array Tmp} {assign body : Code} {Q : Exit → Act → World → Prop} {a : Act} {w : World}
    (l : Nat) (mark : List Deferred) (X : World → Prop)
    (hent : ∀ fn, ∃ (dl : Nat) (W1 : World), (Instr.enterLoop fn a.tmps ps assign body F.round).run P w = .ok (l, mark) W1 ∧
      W1.heap[l]? = some (.loop { state := .ready, pending := none, fn := fn, tmps := a.tmps, params := ps, assign := assign, body := body, defers := dl }) ∧ W1.heap.size = l + 1 ∧ Below w.heap.size w W1 ∧ X W1)
    (hlw : w.heap.size ≤ l) (hXb : ∀ W W', X W → Below (l + 1) W W' → X W') (hXk : ∀ W W', X W → KpC w.heap.size W W' → X W') (hXl : ∀ W o, X W → X (W.putObj l o))
    (h1 : 1 ≤ n) {gf : Nat} {lb : Array Value} (hg : a.eval g = .func (.func gf) #[] lb) (hFg : F.fn gf) (eg : ∀ args w, (callFunc gf args).run P w = .ok (.enter gf args) w)
    {encs : α → Array Value} {full : List α} {w0 : World} (hseq : IterC F (n - 1) P gf lb encs full w0 w l) (hps : ∀ x, (encs x).size = ps.size)
    (I : List α → World → Prop) (Ix : Code → List α → World → Prop) (hI : Abd w.heap.size I) (hIx : ∀ c, Abd w.heap.size (Ix c)) (hIw : ∀ pre W, I pre W → Below w0.heap.size w0 W) (h0 : I [] w) (a₁ : α → Act)
    (hassign : ∀ (x : α) (W : World) (K : Act → World → Prop), K (a₁ x) W →
      assign.wpIn (F.inRound l) (n - 1 - 1) P (Exit.then K (fun _ _ _ => False)) { tmps := (ps.zip (encs x)).foldl (fun t (p, v) => t.setIfInBounds p v) a.tmps, defers := [] } W)
    (hbody : ∀ (pre : List α) (x : α) (W : World), I pre W → pre ++ [x] <+: full → l < W.heap.size → (∃ r, W.heap[l]? = some (.loop r)) → body.wpIn (F.inRound l) (n - 1 - 1) P (ownPostC w.heap.size I Ix (pre ++ [x]) W) (a₁ x) W)
    (hdone : ∀ (W : World), X W → I full W → Q .normal { a with defers := mark ++ a.defers } W)
    (hstop : ∀ (c : Code) (pre : List α) (W : World), X W → pre <+: full → Ix c pre W → c.wpIn F n P Q { a with defers := mark ++ a.defers } W) :
    (Code.rangeFunc g ps assign body).wpIn F n P Q a w := by
  refine wpIn_rangeFunc ?_
  intro fn hfn
  obtain ⟨dl, W1, he, hl1, hsz, hBW, hX1⟩ := hent fn
  refine ⟨l, mark, W1, { target := .fn (.func gf) lb, args := #[.func (.yield l) #[] #[]] }, W1, gf, #[.func (.yield l) #[] #[]] ++ lb, W1, he, ?_, ?_, ?_, fun _ => h1, ?_⟩
  · simp only [resolve, hg]
    simp [go_sem]
  · intro f' hf'
    simp [Target.leads] at hf'
    subst hf'
    exact hFg
  · simp [invoke, go_sem, eg]
  · obtain ⟨rc, hrc⟩ : ∃ rc : LoopState → Option Code → Loop, rc = fun st pe => { state := st, pending := pe, fn := fn, tmps := a.tmps, params := ps, assign := assign, body := body, defers := dl } := ⟨_, rfl⟩
    have hrl : W1.heap[l]? = some (.loop (rc .ready none)) := by rw [hrc]; exact hl1
    refine (hseq (fun pre W => I pre W ∧ W.heap[l]? = some (.loop (rc .ready none)) ∧ X W) (fun pre W => ∃ c, Ix c pre W ∧ W.heap[l]? = some (.loop (rc .done (some c))) ∧ X W) W1 hBW hsz
      (fun s A B hs hb => ⟨hI s A B hs.1 (hb.mono (by omega)), (hb.block l (by omega)).trans hs.2.1, hXb _ _ hs.2.2 hb⟩)
      (fun s A B hs hb => by
        obtain ⟨c, hc, hl, hx⟩ := hs
        exact ⟨c, hIx c s A B hc (hb.mono (by omega)), (hb.block l (by omega)).trans hl, hXb _ _ hx hb⟩)
      (fun pre W h => hIw pre W h.1) ?_ ⟨hI _ _ _ h0 hBW, hrl, hX1⟩).mono ?_
    · rintro pre x W ⟨hi, hl, hx⟩ hpre
      have hlt : l < W.heap.size := (Array.getElem?_eq_some_iff.1 hl).1
      have hy := run_yield (P := P) (args := encs x) hl (by rw [hrc]; exact hps x)
      rw [hrc] at hy
      refine ⟨fn, _, assign, body, hy, roundIn_of_wpIn hfn (hassign x W _ ⟨_, run_beginRound hl (by rw [hrc]), ?_⟩)⟩
      obtain ⟨Wb, hWb⟩ : ∃ Wb, Wb = W.putObj l (.loop { rc .ready none with state := .busy }) := ⟨_, rfl⟩
      have hl2 : Wb.heap[l]? = some (.loop { rc .ready none with state := .busy }) := by rw [hWb]; exact World.putObj_heap_same hlt
      have hb2 : Below l W Wb := by rw [hWb]; exact below_putObj W l _ (Nat.le_of_lt hlt)
      have hx2 : X Wb := by rw [hWb]; exact hXl _ _ hx
      have hk2 : KpC (l + 1) W Wb := by rw [hWb]; exact KpC.putObj W l _
      rw [← hWb]
      refine wpIn_mono (hbody pre x Wb (hI _ _ _ hi (hb2.mono hlw)) hpre (Array.getElem?_eq_some_iff.1 hl2).1 ⟨_, hl2⟩) ?_
      have fin : ∀ (jump : Option Code) (W3 : World), KpC w.heap.size Wb W3 →
          (Instr.endRound l jump).run P W3 = .ok (.bool jump.isNone) (W3.putObj l (.loop (rc (if jump.isNone then .ready else .done) jump))) ∧ Below l W3 (W3.putObj l (.loop (rc (if jump.isNone then .ready else .done) jump))) ∧
          (W3.putObj l (.loop (rc (if jump.isNone then .ready else .done) jump))).heap[l]? = some (.loop (rc (if jump.isNone then .ready else .done) jump)) ∧
          X (W3.putObj l (.loop (rc (if jump.isNone then .ready else .done) jump))) ∧ KpC (l + 1) W (W3.putObj l (.loop (rc (if jump.isNone then .ready else .done) jump))) := fun jump W3 hk3 => by
        have hl3 := (hk3.same l hlw (Array.getElem?_eq_some_iff.1 hl2).1).trans hl2
        have hlt3 := (Array.getElem?_eq_some_iff.1 hl3).1
        have hr := run_endRound (P := P) jump hl3
        refine ⟨?_, below_putObj _ _ _ (Nat.le_of_lt hlt3), World.putObj_heap_same hlt3, hXl _ _ (hXk _ _ hx2 hk3), (hk2.trans (hk3.mono (by omega))).trans (KpC.putObj W3 l _)⟩
        rw [hrc] at hr ⊢
        exact hr
      rintro e a3 W3 hp
      cases e with
      | normal =>
        obtain ⟨hk3, hi3⟩ := hp
        obtain ⟨hr, hbl, hl4, hx4, hk4⟩ := fin none W3 hk3
        exact ⟨_, _, hr, .inl ⟨rfl, ⟨hI _ _ _ hi3 (hbl.mono hlw), hl4, hx4⟩, hk4⟩⟩
      | ret =>
        obtain ⟨hk3, hi3⟩ := hp
        obtain ⟨hr, hbl, hl4, hx4, _⟩ := fin (some .ret) W3 hk3
        exact ⟨_, _, hr, .inr ⟨rfl, .ret, hIx _ _ _ _ hi3 (hbl.mono hlw), hl4, hx4⟩⟩
      | exit id =>
        obtain ⟨hk3, hi3⟩ := hp
        obtain ⟨hr, hbl, hl4, hx4, _⟩ := fin (some (.exit id)) W3 hk3
        exact ⟨_, _, hr, .inr ⟨rfl, .exit id, hIx _ _ _ _ hi3 (hbl.mono hlw), hl4, hx4⟩⟩
      | goto t =>
        obtain ⟨hk3, hi3⟩ := hp
        obtain ⟨hr, hbl, hl4, hx4, _⟩ := fin (some (.goto t)) W3 hk3
        exact ⟨_, _, hr, .inr ⟨rfl, .goto t, hIx _ _ _ _ hi3 (hbl.mono hlw), hl4, hx4⟩⟩
      | panic ch => exact hp.elim
      | outgrown => exact hp.elim
    · rintro e W2 ⟨⟨v, rfl⟩, (⟨hi, hl, hx⟩ | ⟨pre, hpre, c, hi, hl, hx⟩)⟩
      · refine ⟨none, _, by have := run_endLoop (P := P) hl (by rw [hrc]; simp); rw [hrc] at this; exact this, hdone _ (hXl _ _ hx) (hI _ _ _ hi ((below_putObj W2 l _ (Nat.le_of_lt (Array.getElem?_eq_some_iff.1 hl).1)).mono hlw))⟩
      · refine ⟨some c, _, by have := run_endLoop (P := P) hl (by rw [hrc]; simp); rw [hrc] at this; exact this, hstop c pre _ (hXl _ _ hx) hpre (hIx _ _ _ _ hi ((below_putObj W2 l _ (Nat.le_of_lt (Array.getElem?_eq_some_iff.1 hl).1)).mono hlw))⟩
end Go.Proofs.YtnhlmgeopkdiaaaDoor
