
/- run, RunTumble: the program's. -/
import Derived.Test.YtdjbpbolliphkaaTick
namespace Go.Proofs.Ytdjbpbolliphkaa
open Go.RowKit
attribute [local go_sem] run_store_float run_store_complex

def addF (c : Int) (f : Bool) : Int := if f then c + 1 else c
/-- k ticks: the beads, and how often each was folded -/
def runUp (mir : Int) (gr : Pt) (loss : Nat) (bs : List Bd) : Nat → Option (List Bd × List Int)
  | 0 => some (bs, List.replicate bs.length 0)
  | k + 1 => match runUp mir gr loss bs k with
    | some (b, c) => if allGo gr b then some (goL mir gr loss b, List.zipWith addF c (goF mir gr loss b)) else none
    | none => none
theorem runUp_yes {mir : Int} {gr : Pt} {loss : Nat} {bs b : List Bd} {c : List Int} {k : Nat} (h : runUp mir gr loss bs k = some (b, c)) (hg : allGo gr b = true) : runUp mir gr loss bs (k + 1) = some (goL mir gr loss b, List.zipWith addF c (goF mir gr loss b)) := by
  unfold runUp; rw [h]; simp [hg]
theorem runUp_no {mir : Int} {gr : Pt} {loss : Nat} {bs b : List Bd} {c : List Int} {k : Nat} (h : runUp mir gr loss bs k = some (b, c)) (hg : allGo gr b = false) : runUp mir gr loss bs (k + 1) = none := by
  unfold runUp; rw [h]; simp [hg]
theorem runUp_none {mir : Int} {gr : Pt} {loss : Nat} {bs : List Bd} {k : Nat} (h : runUp mir gr loss bs k = none) : ∀ j, runUp mir gr loss bs (k + j) = none
  | 0 => h
  | j + 1 => by
    have ih := runUp_none h j
    show runUp mir gr loss bs (k + j + 1) = none
    unfold runUp; rw [ih]
theorem runUp_len {mir : Int} {gr : Pt} {loss : Nat} {bs : List Bd} : ∀ {k : Nat} {b : List Bd} {c : List Int}, runUp mir gr loss bs k = some (b, c) → b.length = bs.length ∧ c.length = bs.length
  | 0, b, c, h => by
    unfold runUp at h
    injection h with h
    injection h with h1 h2
    subst h1 h2
    simp
  | k + 1, b, c, h => by
    cases hk : runUp mir gr loss bs k with
    | none => unfold runUp at h; rw [hk] at h; cases h
    | some r =>
      obtain ⟨b', c'⟩ := r
      have ih := runUp_len hk
      unfold runUp at h
      rw [hk] at h
      simp only at h
      split at h
      · injection h with h
        injection h with h1 h2
        subst h1 h2
        simp [goL, goF, ih.1, ih.2]
      · cases h
def runOk (mir : Int) (gr : Pt) (loss : Nat) (bs : List Bd) (N : Int) : Option (List Bd × List Int) := if tumB mir gr loss bs && inB N 0 64 then runUp mir gr loss bs N.toNat else none
def RunPost (mir : Int) (gr : Pt) (loss : Nat) (n : Nat) (bs : List Bd) (N : Int) (base : Nat) (e : Ending) (w' : World) : Prop :=
  (∀ b c, runOk mir gr loss bs N = some (b, c) → ∃ B d F m, e = .returned (.tuple #[tumV mir gr loss (.slice B n d), .slice F n m, .bool true]) ∧ w'.ownsRow base 33 2 (.slice B n d) n (flat bdC b) ∧ w'.ownsRow base 3 1 (.slice F n m) n (flat intC c)) ∧
  (runOk mir gr loss bs N = none → ∃ B d, e = .returned (.tuple #[tumV mir gr loss (.slice B n d), .slice none 0 0, .bool false]) ∧ w'.ownsRow base 33 2 (.slice B n d) n (flat bdC bs))

theorem infoIntR : (Try.prog.info? 3).map (fun i => (i.zero, i.size, i.bytes)) = some (some (.int .i64 0), 1, 8) := by kernel_rfl
theorem flat_zeros (n : Nat) : (madeCells #[.int .i64 0] n).toList = flat intC (List.replicate n 0) := by
  apply List.ext_getElem?
  intro j
  by_cases hj : j < n
  · have h1 := flat_get intC_len (List.replicate n 0) j 0 (by simp [hj]) 0 (.int .i64 0) rfl
    rw [Nat.mul_one, Nat.add_zero] at h1
    rw [h1]
    have hr : (Array.range n)[j]? = some j := by simp [hj]
    rw [madeCells, Array.getElem?_toList, Array.getElem?_map, hr]
    simp [Nat.mod_one]
  · rw [List.getElem?_eq_none (by simp [madeCells]; omega), List.getElem?_eq_none (by rw [flat_length intC_len, List.length_replicate]; omega)]
theorem own_zeros {base n : Nat} (W : World) (hb : base ≤ W.heap.size) (hn : n ≤ maxLen) :
    (W.alloc (.cells (madeCells #[.int .i64 0] n) 3)).ownsRow base 3 1 (.slice (some ⟨W.heap.size, 0, none⟩) n n) n (flat intC (List.replicate n 0)) := by
  rw [← flat_zeros]
  exact World.ownsRow_lit W _ n hb hn (by simp [madeCells])

theorem flat_setI {ys : List Int} : ∀ {i : Nat}, i < ys.length → ∀ (x : Int), flat intC (ys.set i x) = (flat intC ys).set i (.int .i64 x) := by
  induction ys with
  | nil => intro i h; simp at h
  | cons y ys ih =>
    intro i h x
    cases i with
    | zero => rfl
    | succ i =>
      rw [List.set_cons_succ, flat_cons, flat_cons, ih (by simpa using h)]
      rfl
theorem mixL_at {α : Type} {ys xs : List α} {k : Nat} (h : ys.length = xs.length) (hk : k < xs.length) : (mixL ys xs k)[k]? = xs[k]? := by
  unfold mixL
  have ht : (ys.take k).length = k := by rw [List.length_take]; omega
  rw [List.getElem?_append_right (by omega), ht, Nat.sub_self, List.getElem?_drop, Nat.add_zero]
theorem runUp_bd {mir : Int} {gr : Pt} {loss : Nat} {bs : List Bd} : ∀ {k : Nat} {b : List Bd} {c : List Int}, runUp mir gr loss bs k = some (b, c) → ∀ (i : Nat) x, c[i]? = some x → 0 ≤ x ∧ x ≤ (k : Int)
  | 0, b, c, h, i, x, hx => by
    unfold runUp at h
    injection h with h
    injection h with h1 h2
    subst h1 h2
    rw [List.getElem?_replicate] at hx
    split at hx
    · injection hx with hx; subst hx; simp
    · cases hx
  | k + 1, b, c, h, i, x, hx => by
    cases hk : runUp mir gr loss bs k with
    | none => unfold runUp at h; rw [hk] at h; cases h
    | some r =>
      obtain ⟨b', c'⟩ := r
      have ih := runUp_bd hk
      unfold runUp at h
      rw [hk] at h
      simp only at h
      split at h
      · injection h with h
        injection h with h1 h2
        subst h1 h2
        rw [List.getElem?_zipWith] at hx
        cases h3 : c'[i]? with
        | none => rw [h3] at hx; cases hx
        | some y =>
          cases h4 : (goF mir gr loss b')[i]? with
          | none => rw [h3, h4] at hx; cases hx
          | some f =>
            rw [h3, h4] at hx
            simp at hx
            have := ih i y h3
            subst hx
            unfold addF
            split <;> omega
      · cases h
theorem Rd.bo {w : World} {B : Nat} {A : Option Addr} {n k : Nat} {xs : List Bool} (h : Rd boC 1 w B A n xs) (hk : k < n) :
    ∃ b off x, A = some ⟨b, off, none⟩ ∧ b < B ∧ xs[k]? = some x ∧ w.cell? ⟨b, off + k, none⟩ = some (.bool x) := by
  obtain ⟨b, off, x, e, hb, hx, hc⟩ := h.at_ hk
  have := hc 0 _ rfl
  rw [Nat.mul_one, Nat.add_zero] at this
  exact ⟨b, off, x, e, hb, hx, this⟩

set_option maxRecDepth 100000 in
set_option maxHeartbeats 8000000 in
theorem run_any (mir : Int) (gr : Pt) (loss : Nat) (A : Option Addr) (n c : Nat) (bs : List Bd) (N : Int) (w : World) (hn : n ≤ 8) (ha : Rd bdC 2 w w.heap.size A n bs) :
    Calls Try.prog 36 #[.agg #[.int .i64 mir, .complex .f32 gr.1 gr.2, .float .f32 loss, .slice A n c], .int .i64 N] w fun e w' => RunPost mir gr loss n bs N w.heap.size e w' ∧ Below w.heap.size w w' := by
  obtain ⟨i0, hi, hz0, hz1, hz2⟩ := info_parts infoIntR
  have hmk := fun wx => run_make (P := Try.prog) wx 52 3 i0 _ Try.underlying52 hi hz0 .i64 .i64 n n (by omega) (Int.le_refl _) (by rw [hz2]; omega) (by omega)
  simp only [Int.toNat_natCast, hz1, Nat.mul_one] at hmk
  have hcl : (Value.int .i64 0).cells = #[.int .i64 0] := rfl
  rw [hcl] at hmk
  have HL := Lib.hid ha.1
  go_enter Try.func36, Try.ntmps36
  go_wp2_with fail
  obtain ⟨W, hWe⟩ : ∃ W, W = (w.alloc (Obj.cells #[.int .i64 mir, .complex .f32 gr.1 gr.2, .float .f32 loss, .slice A n c] 37)).alloc (Obj.cells #[.int .i64 0, .complex .f32 0 0, .float .f32 0, .slice none 0 0] 37) := ⟨_, rfl⟩
  have hW : Below w.heap.size w W := by rw [hWe]; (repeat (first | with_reducible assumption | exact Below.refl _ _ | (refine Below.setCell ?_ (by first | exact Nat.le_refl _ | (simp; done) | omega | (simp; omega)) _) | (refine below_drewN ?_ _) | (refine Below.drew ?_) | (refine Below.alloc ?_ (by first | exact Nat.le_refl _ | (simp; done) | omega | (simp; omega)) _) | (refine then_ ?_ (by with_reducible assumption)) | assumption | (refine then_ ?_ (by assumption))))
  have zW : W.heap.size = w.heap.size + 2 := by rw [hWe]; simp
  have c0 : W.cell? ⟨w.heap.size, 0, none⟩ = some (.int .i64 mir) := by rw [hWe]; simp [go_sem]
  have c1 : W.cell? ⟨w.heap.size, 1, none⟩ = some (.complex .f32 gr.1 gr.2) := by rw [hWe]; simp [go_sem]
  have c2 : W.cell? ⟨w.heap.size, 2, none⟩ = some (.float .f32 loss) := by rw [hWe]; simp [go_sem]
  have c3 : W.cell? ⟨w.heap.size, 3, none⟩ = some (.slice A n c) := by rw [hWe]; simp [go_sem]
  have d0 : W.cell? ⟨w.heap.size + 1, 0, none⟩ = some (.int .i64 0) := by rw [hWe]; simp [go_sem]
  have d1 : W.cell? ⟨w.heap.size + 1, 1, none⟩ = some (.complex .f32 0 0) := by rw [hWe]; simp [go_sem]
  have d2 : W.cell? ⟨w.heap.size + 1, 2, none⟩ = some (.float .f32 0) := by rw [hWe]; simp [go_sem]
  have d3 : W.cell? ⟨w.heap.size + 1, 3, none⟩ = some (.slice none 0 0) := by rw [hWe]; simp [go_sem]
  have df : ∀ j, W.frozen? ⟨w.heap.size + 1, j, none⟩ = false := by intro j; rw [hWe]; simp [go_sem]
  rw [← hWe]
  clear hWe
  have raW := ha.step hW
  have lW0 : w.heap.size < W.heap.size := by omega
  have lW1 : w.heap.size + 1 < W.heap.size := by omega
  have l1 : w.heap.size ≤ w.heap.size + 1 := by omega
  have lle : w.heap.size ≤ W.heap.size := by omega
  have CW := Lib.hid (show (W.cell? ⟨w.heap.size, 0, none⟩ = some (.int .i64 mir) ∧ W.cell? ⟨w.heap.size, 1, none⟩ = some (.complex .f32 gr.1 gr.2) ∧ W.cell? ⟨w.heap.size, 2, none⟩ = some (.float .f32 loss) ∧ W.cell? ⟨w.heap.size, 3, none⟩ = some (.slice A n c)) from ⟨c0, c1, c2, c3⟩)
  have DW := Lib.hid (show (W.cell? ⟨w.heap.size + 1, 0, none⟩ = some (.int .i64 0) ∧ W.cell? ⟨w.heap.size + 1, 1, none⟩ = some (.complex .f32 0 0) ∧ W.cell? ⟨w.heap.size + 1, 2, none⟩ = some (.float .f32 0) ∧ W.cell? ⟨w.heap.size + 1, 3, none⟩ = some (.slice none 0 0)) from ⟨d0, d1, d2, d3⟩)
  have DF := Lib.hid df
  refine (isTumble_any mir gr loss A n c bs _ hn raW).mono ?_
  rintro e w1 ⟨rfl, hb1⟩
  have c0 := keepC c0 hb1
  have c1 := keepC c1 hb1
  have c2 := keepC c2 hb1
  have c3 := keepC c3 hb1
  have f0 := keepF d0 (df 0) hb1
  have f1 := keepF d1 (df 1) hb1
  have f2 := keepF d2 (df 2) hb1
  have f3 := keepF d3 (df 3) hb1
  have d0 := keepC d0 hb1
  have d1 := keepC d1 hb1
  have d2 := keepC d2 hb1
  have d3 := keepC d3 hb1
  have hW1 := then_ hW hb1
  have HB1 := Lib.hid hb1
  have ra1 := raW.step hb1
  have z1 := hb1.size
  have lw0 : w.heap.size < w1.heap.size := by omega
  have lw1 : w.heap.size + 1 < w1.heap.size := by omega
  cases ht : (tumB mir gr loss bs && inB N 0 64)
  · have NO := Lib.hid (show runOk mir gr loss bs N = none by unfold runOk; rw [ht]; rfl)
    cases h1 : tumB mir gr loss bs
    · clear ht df
      go_wp2_with (go_at_call 44; refine (cloneTumble_any mir gr loss A n c bs _ hn ra1).mono ?_; rintro e w9 ⟨B9, d9, rfl, ho9, hb9⟩; have O9 := Lib.hid ho9; have g0 := keepF d0 f0 hb9; have g1 := keepF d1 f1 hb9; have g2 := keepF d2 f2 hb9; have g3 := keepF d3 f3 hb9; have d0' := keepC d0 hb9; have d1' := keepC d1 hb9; have d2' := keepC d2 hb9; have d3' := keepC d3 hb9; have hW9 := then_ hW1 hb9; have z9 := hb9.size; clear ho9 hb9)
      refine bodyPost_ret (v := .tuple #[tumV mir gr loss (.slice B9 n d9), .slice none 0 0, .bool false]) (by simp [results, Try.results36, go_sem, tumV, d0', d1', d2', d3']) rfl ⟨⟨fun b c h => (by rw [NO.out] at h; cases h), fun _ => ⟨B9, d9, rfl, ?_⟩⟩, ?_⟩
      · exact owns_mono (ownsRow_setCell_below (ownsRow_setCell_below (ownsRow_setCell_below (ownsRow_setCell_below O9.out lw1 _) lw1 _) lw1 _) lw1 _) (by omega)
      · exact (((hW9.setCell l1 _).setCell l1 _).setCell l1 _).setCell l1 _
    · have h2 : inB N 0 64 = false := by rw [h1] at ht; simpa using ht
      clear ht df
      go_wp2_with (first
        | (go_at_call 34; refine (within_any _ _ _ _).mono ?_; rintro e w' ⟨rfl, rfl⟩; simp only [h2])
        | (go_at_call 44; refine (cloneTumble_any mir gr loss A n c bs _ hn ra1).mono ?_; rintro e w9 ⟨B9, d9, rfl, ho9, hb9⟩; have O9 := Lib.hid ho9; have g0 := keepF d0 f0 hb9; have g1 := keepF d1 f1 hb9; have g2 := keepF d2 f2 hb9; have g3 := keepF d3 f3 hb9; have d0' := keepC d0 hb9; have d1' := keepC d1 hb9; have d2' := keepC d2 hb9; have d3' := keepC d3 hb9; have hW9 := then_ hW1 hb9; have z9 := hb9.size; clear ho9 hb9))
      refine bodyPost_ret (v := .tuple #[tumV mir gr loss (.slice B9 n d9), .slice none 0 0, .bool false]) (by simp [results, Try.results36, go_sem, tumV, d0', d1', d2', d3']) rfl ⟨⟨fun b c h => (by rw [NO.out] at h; cases h), fun _ => ⟨B9, d9, rfl, ?_⟩⟩, ?_⟩
      · exact owns_mono (ownsRow_setCell_below (ownsRow_setCell_below (ownsRow_setCell_below (ownsRow_setCell_below O9.out lw1 _) lw1 _) lw1 _) lw1 _) (by omega)
      · exact (((hW9.setCell l1 _).setCell l1 _).setCell l1 _).setCell l1 _
  · simp only [Bool.and_eq_true] at ht
    obtain ⟨h1, h2⟩ := ht
    obtain ⟨N0, N64⟩ := inB_true h2
    obtain ⟨K, rfl⟩ := Int.eq_ofNat_of_zero_le N0
    have YES := Lib.hid (show runOk mir gr loss bs (K : Int) = runUp mir gr loss bs K by unfold runOk; rw [h1, h2]; simp)
    clear df N0
    go_wp2_with (go_at_call 34; refine (within_any _ _ _ _).mono ?_; rintro e w' ⟨rfl, rfl⟩; simp only [h2])
    refine (cloneTumble_any mir gr loss A n c bs _ hn ra1).mono ?_
    rintro e w2 ⟨B, d, rfl, ho2, hb2⟩
    have z2 := hb2.size
    have lb0 : w.heap.size < w2.heap.size := by omega
    have lb1 : w.heap.size + 1 < w2.heap.size := by omega
    have c0' := keepC c0 hb2
    have c1' := keepC c1 hb2
    have c2' := keepC c2 hb2
    have c3' := keepC c3 hb2
    go_wp2_with fail
    obtain ⟨V, hVe⟩ : ∃ V, V = (w2.alloc (Obj.cells #[.int .i64 mir, .complex .f32 gr.1 gr.2, .float .f32 loss, .slice B n d] 37)).alloc (Obj.cells (madeCells #[.int .i64 0] n) 3) := ⟨_, rfl⟩
    have hV : Below w2.heap.size w2 V := by rw [hVe]; (repeat (first | with_reducible assumption | exact Below.refl _ _ | (refine Below.setCell ?_ (by first | exact Nat.le_refl _ | (simp; done) | omega | (simp; omega)) _) | (refine below_drewN ?_ _) | (refine Below.drew ?_) | (refine Below.alloc ?_ (by first | exact Nat.le_refl _ | (simp; done) | omega | (simp; omega)) _) | (refine then_ ?_ (by with_reducible assumption)) | assumption | (refine then_ ?_ (by assumption))))
    have zV : V.heap.size = w2.heap.size + 2 := by rw [hVe]; simp
    have e0 : V.cell? ⟨w2.heap.size, 0, none⟩ = some (.int .i64 mir) := by rw [hVe]; simp [go_sem]
    have e1 : V.cell? ⟨w2.heap.size, 1, none⟩ = some (.complex .f32 gr.1 gr.2) := by rw [hVe]; simp [go_sem]
    have e2 : V.cell? ⟨w2.heap.size, 2, none⟩ = some (.float .f32 loss) := by rw [hVe]; simp [go_sem]
    have e3 : V.cell? ⟨w2.heap.size, 3, none⟩ = some (.slice B n d) := by rw [hVe]; simp [go_sem]
    have ef : ∀ j, V.frozen? ⟨w2.heap.size, j, none⟩ = false := by intro j; rw [hVe]; simp [go_sem]
    have OC := Lib.hid (show V.ownsRow W.heap.size 3 1 (.slice (some ⟨w2.heap.size + 1, 0, none⟩) n n) n (flat intC (List.replicate n 0)) by
      rw [hVe]
      have := own_zeros (base := W.heap.size) (n := n) (w2.alloc (Obj.cells #[.int .i64 mir, .complex .f32 gr.1 gr.2, .float .f32 loss, .slice B n d] 37)) (by simp; omega) (by unfold maxLen; omega)
      simp only [World.size_alloc] at this
      exact this)
    have OB := Lib.hid (owns_mono (base := W.heap.size) (owns_below ho2 hV) (by omega))
    have OFB := Lib.hid (off_ge ho2 (Nat.le_refl _))
    have OFC := Lib.hid (off_ge ho2 (Nat.le_succ _))
    have hWV := Lib.hid ((HB1.out.trans (hb2.mono (by omega))).trans (hV.mono (by omega)))
    have HL2 : Hid (List.replicate n (0 : Int) = List.replicate bs.length 0) := Lib.hid (by rw [HL.out])
    rw [← hVe]
    clear hVe ho2 hb2 hV c0 c1 c2 c3 d0 d1 d2 d3 f0 f1 f2 f3 c0' c1' c2' c3' HB1 ra1 hW1
    go_loopw [31] (fun i wr => ∃ (k : Nat) (b : List Bd) (cc : List Int) (Bk : Option Addr) (dk : Nat), k ≤ K ∧ i = .int .i64 k ∧ runUp mir gr loss bs k = some (b, cc) ∧ wr.ownsRow W.heap.size 33 2 (.slice Bk n dk) n (flat bdC b) ∧ wr.ownsRow W.heap.size 3 1 (.slice (some ⟨w2.heap.size + 1, 0, none⟩) n n) n (flat intC cc) ∧ Off (.slice Bk n dk) w2.heap.size ∧ Off (.slice Bk n dk) (w2.heap.size + 1) ∧ wr.cell? ⟨w2.heap.size, 0, none⟩ = some (.int .i64 mir) ∧ wr.cell? ⟨w2.heap.size, 1, none⟩ = some (.complex .f32 gr.1 gr.2) ∧ wr.cell? ⟨w2.heap.size, 2, none⟩ = some (.float .f32 loss) ∧ wr.cell? ⟨w2.heap.size, 3, none⟩ = some (.slice Bk n dk) ∧ (∀ j, wr.frozen? ⟨w2.heap.size, j, none⟩ = false) ∧ V.heap.size ≤ wr.heap.size ∧ Below W.heap.size W wr) (fun i _ => K - (intOf i).toNat)
    case atStart => exact ⟨0, bs, _, B, d, Nat.zero_le _, rfl, by unfold runUp; rw [← HL2.out], OB.out, OC.out, OFB.out, OFC.out, e0, e1, e2, e3, ef, Nat.le_refl _, hWV.out⟩
    case round =>
      clear e0 e1 e2 e3 ef OB OC OFB OFC hWV
      obtain ⟨k, b, cc, Bk, dk, hk, rfl, hrun, hob, hoc, hfb, hfc, e0, e1, e2, e3, ef, hsz, hw⟩ := hrel
      have OB := Lib.hid hob
      have OC := Lib.hid hoc
      have OFB := Lib.hid hfb
      have OFC := Lib.hid hfc
      have RUN := Lib.hid hrun
      obtain ⟨lb, lc⟩ := runUp_len hrun
      have LBL : Hid (b.length = n) := Lib.hid (by rw [lb, HL.out])
      have LCL : Hid (cc.length = n) := Lib.hid (by rw [lc, HL.out])
      have CB := Lib.hid (runUp_bd hrun)
      have rb := Rd.of_own bdC_len LBL.out hob
      have c0 := (hw.cell (p := ⟨w.heap.size, 0, none⟩) lW0).trans CW.out.1
      have c1 := (hw.cell (p := ⟨w.heap.size, 1, none⟩) lW0).trans CW.out.2.1
      have c2 := (hw.cell (p := ⟨w.heap.size, 2, none⟩) lW0).trans CW.out.2.2.1
      have c3 := (hw.cell (p := ⟨w.heap.size, 3, none⟩) lW0).trans CW.out.2.2.2
      have d0 := (hw.cell (p := ⟨w.heap.size + 1, 0, none⟩) lW1).trans DW.out.1
      have d1 := (hw.cell (p := ⟨w.heap.size + 1, 1, none⟩) lW1).trans DW.out.2.1
      have d2 := (hw.cell (p := ⟨w.heap.size + 1, 2, none⟩) lW1).trans DW.out.2.2.1
      have d3 := (hw.cell (p := ⟨w.heap.size + 1, 3, none⟩) lW1).trans DW.out.2.2.2
      have fr : ∀ j, wr.frozen? ⟨w.heap.size + 1, j, none⟩ = false := fun j => (hw.frozen (p := ⟨w.heap.size + 1, j, none⟩) lW1).trans (DF.out j)
      have hWr : Below w.heap.size w wr := hW.trans (hw.mono hW.size)
      have lr0 : w.heap.size < wr.heap.size := by omega
      have lr1 : w.heap.size + 1 < wr.heap.size := by omega
      have lr2 : w2.heap.size < wr.heap.size := by omega
      have lr3 : w2.heap.size + 1 < wr.heap.size := by omega
      clear hob hoc hfb hfc hrun
      by_cases hlt : k < K
      · have hki : (k : Int) < (K : Int) := by omega
        have hk0 : (0 : Int) ≤ (k : Int) := by omega
        go_wp2_with fail
        refine (tick_any mir gr loss Bk n dk b _ hn rb).mono ?_
        rintro e w5 ⟨⟨hy, hno⟩, hb5⟩
        cases hg : allGo gr b
        · obtain ⟨B8, d8, rfl, ho8⟩ := hno hg
          have NO := Lib.hid (show runOk mir gr loss bs (K : Int) = none by
            rw [YES.out]
            obtain ⟨j, hj⟩ : ∃ j, K = k + 1 + j := ⟨K - (k + 1), by omega⟩
            rw [hj]
            exact runUp_none (runUp_no RUN.out hg) j)
          have ra5 := (ha.step hWr).step hb5
          have hW5 := then_ hWr hb5
          have f0 := keepF d0 (fr 0) hb5
          have f1 := keepF d1 (fr 1) hb5
          have f2 := keepF d2 (fr 2) hb5
          have f3 := keepF d3 (fr 3) hb5
          have d0' := keepC d0 hb5
          have d1' := keepC d1 hb5
          have d2' := keepC d2 hb5
          have d3' := keepC d3 hb5
          have c0' := keepC c0 hb5
          have c1' := keepC c1 hb5
          have c2' := keepC c2 hb5
          have c3' := keepC c3 hb5
          have z5 := hb5.size
          have l50 : w.heap.size < w5.heap.size := by omega
          have l51 : w.heap.size + 1 < w5.heap.size := by omega
          have l52 : w2.heap.size < w5.heap.size := by omega
          simp only [tumV]
          clear hy hno ho8 hb5 c0 c1 c2 c3 d0 d1 d2 d3 fr e0 e1 e2 e3 ef rb
          go_wp2_with (go_at_call 44; refine (cloneTumble_any mir gr loss A n c bs _ hn (ra5.step ?_)).mono ?_; (repeat (first | with_reducible assumption | exact Below.refl _ _ | (refine Below.setCell ?_ (by first | exact Nat.le_refl _ | (simp; done) | omega | (simp; omega)) _) | (refine below_drewN ?_ _) | (refine Below.drew ?_) | (refine Below.alloc ?_ (by first | exact Nat.le_refl _ | (simp; done) | omega | (simp; omega)) _) | (refine then_ ?_ (by with_reducible assumption)) | assumption | (refine then_ ?_ (by assumption)))); rintro e w9 ⟨B9, d9, rfl, ho9, hb9⟩; have hB9 := (show Below w5.heap.size w5 w9 by (repeat (first | with_reducible assumption | exact Below.refl _ _ | (refine Below.setCell ?_ (by first | exact Nat.le_refl _ | (simp; done) | omega | (simp; omega)) _) | (refine below_drewN ?_ _) | (refine Below.drew ?_) | (refine Below.alloc ?_ (by first | exact Nat.le_refl _ | (simp; done) | omega | (simp; omega)) _) | (refine then_ ?_ (by with_reducible assumption)) | assumption | (refine then_ ?_ (by assumption))))); have O9 := Lib.hid (owns_mono (base := w5.heap.size) ho9 (by simp)); have g0 := keepF d0' f0 hB9; have g1 := keepF d1' f1 hB9; have g2 := keepF d2' f2 hB9; have g3 := keepF d3' f3 hB9; have d0 := keepC d0' hB9; have d1 := keepC d1' hB9; have d2 := keepC d2' hB9; have d3 := keepC d3' hB9; have hW9 := then_ hW5 hB9; have z9 := hB9.size; clear ho9 hb9)
          refine bodyPost_ret (v := .tuple #[tumV mir gr loss (.slice B9 n d9), .slice none 0 0, .bool false]) (by simp [results, Try.results36, go_sem, tumV, d0, d1, d2, d3]) rfl ⟨⟨fun b c h => (by rw [NO.out] at h; cases h), fun _ => ⟨B9, d9, rfl, ?_⟩⟩, ?_⟩
          · exact owns_mono (ownsRow_setCell_below (ownsRow_setCell_below (ownsRow_setCell_below (ownsRow_setCell_below O9.out l51 _) l51 _) l51 _) l51 _) (by omega)
          · exact (((hW9.setCell l1 _).setCell l1 _).setCell l1 _).setCell l1 _
        · obtain ⟨B9, d9, F, m9, rfl, ho9, hoF⟩ := hy hg
          have RUN' := Lib.hid (runUp_yes RUN.out hg)
          obtain ⟨fl, hfl⟩ : ∃ fl, fl = goF mir gr loss b := ⟨_, rfl⟩
          obtain ⟨nb, hnb⟩ : ∃ nb, nb = goL mir gr loss b := ⟨_, rfl⟩
          rw [← hfl] at hoF RUN'
          rw [← hnb] at ho9 RUN'
          have hfll : fl.length = n := by rw [hfl]; unfold goF; rw [List.length_map, LBL.out]
          obtain ⟨zc, hzc⟩ : ∃ zc, zc = List.zipWith addF cc fl := ⟨_, rfl⟩
          rw [← hzc] at RUN'
          have hzl : zc.length = cc.length := by rw [hzc, List.length_zipWith, LCL.out, hfll]; omega
          have ZC := Lib.hid hzc
          have hW5 := then_ hWr hb5
          have e0' := keepC e0 hb5
          have e1' := keepC e1 hb5
          have e2' := keepC e2 hb5
          have e3' := keepC e3 hb5
          have ef' := fun j => (hb5.frozen (p := ⟨w2.heap.size, j, none⟩) lr2).trans (ef j)
          have OC5 := Lib.hid (owns_below OC.out hb5)
          have hw5 := hw.trans (hb5.mono (by omega))
          have z5 := hb5.size
          have l52 : w2.heap.size < w5.heap.size := by omega
          have l53 : w2.heap.size + 1 < w5.heap.size := by omega
          simp only [tumV]
          have O9 := Lib.hid ho9
          have OF9 := Lib.hid hoF
          clear hy hno ho9 hoF hfl hnb hzc hb5 c0 c1 c2 c3 d0 d1 d2 d3 fr e0 e1 e2 e3 ef rb
          go_wp2_with fail
          obtain ⟨U, hUe⟩ : ∃ U, U = w5.alloc (Obj.cells #[.int .i64 mir, .complex .f32 gr.1 gr.2, .float .f32 loss, .slice B9 n d9] 37) := ⟨_, rfl⟩
          have hU : Below w5.heap.size w5 U := by rw [hUe]; (repeat (first | with_reducible assumption | exact Below.refl _ _ | (refine Below.setCell ?_ (by first | exact Nat.le_refl _ | (simp; done) | omega | (simp; omega)) _) | (refine below_drewN ?_ _) | (refine Below.drew ?_) | (refine Below.alloc ?_ (by first | exact Nat.le_refl _ | (simp; done) | omega | (simp; omega)) _) | (refine then_ ?_ (by with_reducible assumption)) | assumption | (refine then_ ?_ (by assumption))))
          have zU : U.heap.size = w5.heap.size + 1 := by rw [hUe]; simp
          have u0 : U.cell? ⟨w5.heap.size, 0, none⟩ = some (.int .i64 mir) := by rw [hUe]; simp [go_sem]
          have u1 : U.cell? ⟨w5.heap.size, 1, none⟩ = some (.complex .f32 gr.1 gr.2) := by rw [hUe]; simp [go_sem]
          have u2 : U.cell? ⟨w5.heap.size, 2, none⟩ = some (.float .f32 loss) := by rw [hUe]; simp [go_sem]
          have u3 : U.cell? ⟨w5.heap.size, 3, none⟩ = some (.slice B9 n d9) := by rw [hUe]; simp [go_sem]
          rw [← hUe]
          have e0 := keepC e0' hU
          have e1 := keepC e1' hU
          have e2 := keepC e2' hU
          have e3 := keepC e3' hU
          have ef := fun j => (hU.frozen (p := ⟨w2.heap.size, j, none⟩) l52).trans (ef' j)
          have OCU := Lib.hid (owns_below OC5.out hU)
          have OBU := Lib.hid (owns_below O9.out hU)
          have OFU := Lib.hid (owns_below OF9.out hU)
          have rF := Rd.of_own boC_len hfll OFU.out
          have hwU := hw5.trans (hU.mono (by omega))
          have offN1 := off_lt O9.out (show w2.heap.size < wr.heap.size by omega)
          have offN2 := off_lt O9.out (show w2.heap.size + 1 < wr.heap.size by omega)
          have offF2 := off_lt OF9.out (show w2.heap.size + 1 < wr.heap.size by omega)
          clear hUe hU e0' e1' e2' e3' ef' OC5 O9 OF9
          go_wp2_with fail
          go_loopw [45] (fun i wx => ∃ j : Nat, j ≤ n ∧ i = .int .i64 j ∧ wx.ownsRow W.heap.size 3 1 (.slice (some ⟨w2.heap.size + 1, 0, none⟩) n n) n (flat intC (mixL zc cc j)) ∧ U.grownBy wx (some (w2.heap.size + 1))) (fun i _ => n - (intOf i).toNat)
          case atStart => exact ⟨0, Nat.zero_le _, rfl, by rw [mixL_zero]; exact OCU.out, World.grownBy.refl _ _⟩
          case round =>
            obtain ⟨j, hj, rfl, hoc, hgr⟩ := hrel
            have OC := Lib.hid hoc
            have HG := Lib.hid hgr
            have zr := hgr.size
            by_cases hlj : j < n
            · obtain ⟨gF, rfl, _, _⟩ := owns_slice_at OFU.out (by omega)
              obtain ⟨f, hf⟩ : ∃ f, fl[j]? = some f := ⟨_, List.getElem?_eq_getElem (by omega)⟩
              obtain ⟨x, hx⟩ : ∃ x, cc[j]? = some x := ⟨_, List.getElem?_eq_getElem (by have := LCL.out; omega)⟩
              obtain ⟨xb0, xb1⟩ := CB.out j x hx
              have hneF : ¬ gF = w2.heap.size + 1 := fun e => offF2 (by rw [e]; rfl)
              have cF : wr.cell? ⟨gF, j, none⟩ = some (.bool f) := by
                refine hgr.cell (a := ⟨gF, j, none⟩) ?_ (fun e => by injection e with e; exact hneF e)
                rw [OFU.out.cellAt j (by omega)]
                have := flat_get boC_len fl j f hf 0 _ rfl
                simpa using this
              have hmx : (mixL zc cc j)[j]? = some x := by rw [mixL_at hzl (by have := LCL.out; omega)]; exact hx
              have hzx : zc[j]? = some (addF x f) := by rw [ZC.out, List.getElem?_zipWith, hx, hf]
              have cC : wr.cell? ⟨w2.heap.size + 1, j, none⟩ = some (.int .i64 x) := by
                rw [hoc.cellAt j (by omega)]
                have := flat_get intC_len (mixL zc cc j) j x hmx 0 _ rfl
                simpa using this
              have fC := hoc.frozenAt j
              have SZ := Lib.hid (mixL_set hzl hzx)
              have LZ := Lib.hid (mixL_len (k := j) hzl (by have := LCL.out; omega))
              have hji : (j : Int) < (n : Int) := by omega
              have hj0 : (0 : Int) ≤ (j : Int) := by omega
              have hwr64 : IntKind.i64.wrap (x + 1) = x + 1 := by rw [IntKind.wrap_i64]; omega
              have SX := Lib.hid (set_same hmx)
              clear hf hx hmx hzx hoc hgr
              cases f
              · go_wp2
                go_roundw
                case rel =>
                  refine ⟨j + 1, by omega, by go_num, ?_, HG.out⟩
                  rw [← SZ.out]
                  have e : addF x false = x := rfl
                  rw [e, SX.out]
                  exact OC.out
                case measure => simp [intOf]; omega
              · go_wp2
                go_roundw
                case rel =>
                  refine ⟨j + 1, by omega, by go_num, ?_, grown_set HG.out _ _⟩
                  rw [← SZ.out, flat_setI (by rw [LZ.out]; have := LCL.out; omega)]
                  exact (OC.out.stored j _).1
                case measure => simp [intOf]; omega
            · obtain rfl : j = n := by omega
              have hne9 : ¬ w5.heap.size = w2.heap.size + 1 := by omega
              have hne8 : ¬ w2.heap.size = w2.heap.size + 1 := by omega
              have u0' := hgr.cell u0 (fun e => by injection e with e; exact hne9 e)
              have u1' := hgr.cell u1 (fun e => by injection e with e; exact hne9 e)
              have u2' := hgr.cell u2 (fun e => by injection e with e; exact hne9 e)
              have u3' := hgr.cell u3 (fun e => by injection e with e; exact hne9 e)
              have e0' := hgr.cell e0 (fun e => by injection e with e; exact hne8 e)
              have e1' := hgr.cell e1 (fun e => by injection e with e; exact hne8 e)
              have e2' := hgr.cell e2 (fun e => by injection e with e; exact hne8 e)
              have e3' := hgr.cell e3 (fun e => by injection e with e; exact hne8 e)
              have efr : ∀ j, wr.frozen? ⟨w2.heap.size, j, none⟩ = false := fun j => (World.frozen?_of_block (hgr.block w2.heap.size (by omega) (fun e => by injection e with e; exact hne8 e))).trans (ef j)
              have OBr := Lib.hid (owns_grown OBU.out hgr (fun g hg => by injection hg with hg; rw [← hg]; exact offN2))
              have eC : mixL zc cc j = zc := by rw [← LCL.out]; exact mixL_all hzl
              have hBr := Lib.hid (hwU.grown hgr (by omega) (fun g hg => by injection hg with hg; omega))
              have hneU : ¬ w5.heap.size = w2.heap.size := by omega
              have lW2 : W.heap.size ≤ w2.heap.size := by omega
              have offC7 : Off (.slice (some ⟨w2.heap.size + 1, 0, none⟩) j j) w2.heap.size := by unfold Off Value.ownBlock; simp
              have fe0 := efr 0
              have fe1 := efr 1
              have fe2 := efr 2
              have fe3 := efr 3
              rw [eC] at hoc
              have OCr := Lib.hid hoc
              clear hoc hgr u0 u1 u2 u3 e0 e1 e2 e3 eC HG OC
              go_wp2
              go_roundw
              case rel =>
                refine ⟨k + 1, nb, zc, B9, d9, by omega, by go_num, RUN'.out, own_set (own_set (own_set (own_set OBr.out offN1 _ _) offN1 _ _) offN1 _ _) offN1 _ _ |> fun h => owns_mono h (by omega), own_set (own_set (own_set (own_set OCr.out offC7 _ _) offC7 _ _) offC7 _ _) offC7 _ _, offN1, offN2, by simp [go_sem, e0'], by simp [go_sem, e1'], by simp [go_sem, e2'], by simp [go_sem, e3'], fun i => by simp [go_sem, efr i], by simp; omega, (((hBr.out.setCell lW2 _).setCell lW2 _).setCell lW2 _).setCell lW2 _⟩
              case measure => simp [intOf]; omega
      · obtain rfl : k = K := by omega
        have f0 := fr 0
        have f1 := fr 1
        have f2 := fr 2
        have f3 := fr 3
        go_wp2
        refine bodyPost_ret (v := .tuple #[tumV mir gr loss (.slice Bk n dk), .slice (some ⟨w2.heap.size + 1, 0, none⟩) n n, .bool true]) (by simp [results, Try.results36, go_sem, tumV, d0, d1, d2, d3]) rfl ⟨⟨fun b' c' h => ?_, fun h => (by rw [YES.out, RUN.out] at h; cases h)⟩, (((hWr.setCell l1 _).setCell l1 _).setCell l1 _).setCell l1 _⟩
        rw [YES.out, RUN.out] at h
        injection h with h
        injection h with h1' h2'
        subst h1' h2'
        exact ⟨Bk, dk, _, _, rfl, owns_mono (ownsRow_setCell_below (ownsRow_setCell_below (ownsRow_setCell_below (ownsRow_setCell_below OB.out lW1 _) lW1 _) lW1 _) lW1 _) lle, owns_mono (ownsRow_setCell_below (ownsRow_setCell_below (ownsRow_setCell_below (ownsRow_setCell_below OC.out lW1 _) lW1 _) lW1 _) lW1 _) lle⟩
end Go.Proofs.Ytdjbpbolliphkaa
