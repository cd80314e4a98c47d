
/- RunTumble of a valid tumble: what it gives; plain facts for the laws on tumbles; big. -/
import Derived.Test.YtdjbpbolliphkaaTumS
import Derived.Test.YtdjbpbolliphkaaRun2
import Derived.Test.YtdjbpbolliphkaaSameT
namespace Go.Proofs.Ytdjbpbolliphkaa
open Go.RowKit
attribute [local go_sem] run_store_float run_store_complex

theorem bigT_any (A : Option Addr) (m c : Nat) (w : World) :
    Calls Try.prog 8 #[.slice A m c] w fun e w' => e = .returned (.bool (decide ((4096 : Int) < m))) ∧ w = w' := by
  go_enter Try.func8, Try.ntmps8
  go_wp2
  go_ret
  exact ⟨rfl, rfl⟩

def runB (mir : Int) (gr : Pt) (loss : Nat) (bs : List Bd) (k : Nat) : List Bd := match runUp mir gr loss bs k with
  | some (b, _) => b
  | none => bs
def runS (mir : Int) (gr : Pt) (loss : Nat) (bs : List Bd) (k : Nat) : Bool := (runUp mir gr loss bs k).isSome
theorem runB_len (mir : Int) (gr : Pt) (loss : Nat) (bs : List Bd) (k : Nat) : (runB mir gr loss bs k).length = bs.length := by
  unfold runB
  split
  · rename_i b c h; exact (runUp_len h).1
  · rfl
theorem runB_tum {mir : Int} {gr : Pt} {loss : Nat} {bs : List Bd} (h : tumB mir gr loss bs = true) (k : Nat) : tumB mir gr loss (runB mir gr loss bs k) = true := by
  unfold runB
  split
  · rename_i b c hk; exact runUp_tum h hk
  · exact h
theorem runB_no {mir : Int} {gr : Pt} {loss : Nat} {bs : List Bd} {k : Nat} (h : runS mir gr loss bs k = false) : runB mir gr loss bs k = bs := by
  unfold runS at h
  unfold runB
  split
  · rename_i b c hk; rw [hk] at h; cases h
  · rfl
/-- ticks in two parts -/
theorem runS_split {mir : Int} {gr : Pt} {loss : Nat} {bs : List Bd} {k n : Nat} (hk : k ≤ n) :
    (runS mir gr loss bs k = false → runS mir gr loss bs n = false) ∧
    (runS mir gr loss bs k = true → runS mir gr loss bs n = runS mir gr loss (runB mir gr loss bs k) (n - k) ∧ (runS mir gr loss bs n = true → runB mir gr loss bs n = runB mir gr loss (runB mir gr loss bs k) (n - k))) := by
  obtain ⟨j, rfl⟩ : ∃ j, n = k + j := ⟨n - k, by omega⟩
  have ej : k + j - k = j := by omega
  rw [ej]
  unfold runS runB
  cases h : runUp mir gr loss bs k with
  | none =>
    have hj := runUp_none h j
    simp [hj]
  | some r =>
    obtain ⟨b, c⟩ := r
    refine ⟨fun h => (by cases h), fun _ => ?_⟩
    rw [runUp_add h j]
    cases hj : runUp mir gr loss b j with
    | none => simp
    | some r => simp
theorem runOk_up {mir : Int} {gr : Pt} {loss : Nat} {bs : List Bd} (ht : tumB mir gr loss bs = true) {N : Nat} (hN : N ≤ 64) : runOk mir gr loss bs (N : Int) = runUp mir gr loss bs N := by
  unfold runOk
  have h : inB (N : Int) 0 64 = true := by unfold inB; simp; omega
  rw [ht, h]
  rfl
/-- RunTumble of a valid tumble -/
theorem runT_any (mir : Int) (gr : Pt) (loss : Nat) (A : Option Addr) (c : Nat) (bs : List Bd) (N : Nat) (w : World) (ht : tumB mir gr loss bs = true) (hN : N ≤ 64) (ha : Rd bdC 2 w w.heap.size A bs.length bs) :
    Calls Try.prog 13 #[.agg #[.int .i64 mir, .complex .f32 gr.1 gr.2, .float .f32 loss, .slice A bs.length c], .int .i64 N] w fun e w' => ∃ B d, e = .returned (.tuple #[tumV mir gr loss (.slice B bs.length d), .bool (runS mir gr loss bs N)]) ∧ Rd bdC 2 w' w'.heap.size B bs.length (runB mir gr loss bs N) ∧ Below w.heap.size w w' := by
  refine (runTumble_any mir gr loss A bs.length c bs N w (tumB_parts.1 ht).2.2.2.1 ha).mono ?_
  rintro e w' ⟨⟨hy, hno⟩, hb⟩
  rw [runOk_up ht hN] at hno
  cases hr : runUp mir gr loss bs N with
  | none =>
    obtain ⟨B, d, rfl, ho⟩ := hno hr
    have e1 : runS mir gr loss bs N = false := by unfold runS; rw [hr]; rfl
    refine ⟨B, d, by rw [e1], ?_, hb⟩
    rw [runB_no e1]
    exact Rd.of_own bdC_len rfl ho
  | some r =>
    obtain ⟨b, cc⟩ := r
    obtain ⟨B, d, rfl, ho⟩ := hy b cc (by rw [runOk_up ht hN]; exact hr)
    have e1 : runS mir gr loss bs N = true := by unfold runS; rw [hr]; rfl
    have e2 : runB mir gr loss bs N = b := by unfold runB; rw [hr]
    refine ⟨B, d, by rw [e1], ?_, hb⟩
    rw [e2]
    exact Rd.of_own bdC_len (runUp_len hr).1 ho
/-- a tumble's box -/
def BoxT (w : World) (b : Nat) (mir : Int) (gr : Pt) (loss : Nat) (s : Value) : Prop :=
  w.cell? ⟨b, 0, none⟩ = some (.int .i64 mir) ∧ w.cell? ⟨b, 1, none⟩ = some (.complex .f32 gr.1 gr.2) ∧ w.cell? ⟨b, 2, none⟩ = some (.float .f32 loss) ∧ w.cell? ⟨b, 3, none⟩ = some s
theorem BoxT.keep {w w' : World} {b : Nat} {mir : Int} {gr : Pt} {loss : Nat} {s : Value} (h : BoxT w b mir gr loss s) (hb : Below w.heap.size w w') : BoxT w' b mir gr loss s :=
  ⟨keepC h.1 hb, keepC h.2.1 hb, keepC h.2.2.1 hb, keepC h.2.2.2 hb⟩
theorem BoxT.lt {w : World} {b : Nat} {mir : Int} {gr : Pt} {loss : Nat} {s : Value} (h : BoxT w b mir gr loss s) : b < w.heap.size := World.block_lt_of_cell? _ _ h.1
theorem boxT_new (w : World) (mir : Int) (gr : Pt) (loss : Nat) (s : Value) (t : TypeId) : BoxT (w.alloc (Obj.cells #[.int .i64 mir, .complex .f32 gr.1 gr.2, .float .f32 loss, s] t)) w.heap.size mir gr loss s :=
  ⟨by simp [go_sem], by simp [go_sem], by simp [go_sem], by simp [go_sem]⟩
theorem runT_len (mir : Int) (gr : Pt) (loss : Nat) (n : Nat) (A : Option Addr) (c : Nat) (bs : List Bd) (N : Nat) (w : World) (hn : n = bs.length) (ht : tumB mir gr loss bs = true) (hN : N ≤ 64) (ha : Rd bdC 2 w w.heap.size A n bs) :
    Calls Try.prog 13 #[.agg #[.int .i64 mir, .complex .f32 gr.1 gr.2, .float .f32 loss, .slice A n c], .int .i64 N] w fun e w' => ∃ B d, e = .returned (.tuple #[tumV mir gr loss (.slice B n d), .bool (runS mir gr loss bs N)]) ∧ Rd bdC 2 w' w'.heap.size B n (runB mir gr loss bs N) ∧ Below w.heap.size w w' := by
  subst hn
  exact runT_any mir gr loss A c bs N w ht hN ha
theorem eqB_self {x : Nat} (h : finB x = true) : eqB x x = true := by rw [eqB_fin h h]; simp
theorem cxE_self {p : Pt} (h : finP p) : cxE p p = true := by unfold cxE; rw [eqB_self h.1, eqB_self h.2]; rfl
theorem ok_fin {mir : Int} {b : Bd} (h : okBd mir b = true) : finP b.1 ∧ finP b.2 := by
  unfold okBd wedgeB at h
  rw [Bool.and_eq_true, Bool.and_eq_true] at h
  exact ⟨point_fin h.1.1, point_fin h.2⟩
theorem bdE_self {mir : Int} {b : Bd} (h : okBd mir b = true) : bdE b b = true := by
  unfold bdE
  rw [cxE_self (ok_fin h).1, cxE_self (ok_fin h).2]; rfl
theorem tum_same {mir : Int} {gr : Pt} {loss : Nat} {bs : List Bd} (h : tumB mir gr loss bs = true) : cxE gr gr = true ∧ eqB loss loss = true ∧ ∀ (i : Nat) x y, bs[i]? = some x → bs[i]? = some y → bdE x y = true := by
  rw [tumB_parts] at h
  obtain ⟨_, h2, h3, _, h5⟩ := h
  refine ⟨cxE_self (point_fin h2), eqB_self (part_fin h3), fun i x y hx hy => ?_⟩
  rw [hx] at hy
  injection hy with hy
  subst hy
  exact bdE_self (List.all_eq_true.1 h5 x (List.mem_of_getElem? hx))
end Go.Proofs.Ytdjbpbolliphkaa
