
/- tick: the program's. -/
import Derived.Test.YthlphmojldbpkaaGreatM1
import Derived.Laws.StructEq
namespace Go.Proofs.YthlphmojldbpkaaGreat
open Go.RowKit
attribute [local go_sem] run_store_float run_store_complex

theorem symEqT_fields (d : Nat) (t t' : Int) (f f' : Bool) (w : World) : (Op.eqFields (d + 1) #[.int .i64 t, .bool f] #[.int .i64 t', .bool f'] (Tryz.prog.fieldsOf 58).toList).run Tryz.prog w = .ok ((t, f) == (t', f')) w := by
  have h : ((t, f) == (t', f')) = (t == t' && f == f') := rfl
  rw [h]
  have k1 := fun wx d a b => run_equalIn_int (P := Tryz.prog) wx d 3 .i64 .i64 a b Tryz.underlying3
  have k2 := fun wx d a b => run_equalIn_bool' (P := Tryz.prog) wx d 4 a b Tryz.underlying4
  cases h1 : (t == t') <;> cases h2 : (f == f') <;> simp at h1 h2 <;> simp [go_sem, Tryz.underlying58, k1, k2, h1, h2]
theorem run_neq_symT (t t' : Int) (f f' : Bool) (w : World) : (binOp .neq 58 (.agg #[.int .i64 t, .bool f]) (.agg #[.int .i64 t', .bool f'])).run Tryz.prog w = .ok (.bool (!((t, f) == (t', f')))) w := by
  rw [run_neq_struct]
  have ht : Tryz.prog.underlying 58 = some (.struct (Tryz.prog.fieldsOf 58)) := by kernel_rfl
  have hp : Tryz.prog.stoodInHeld 58 = false := by kernel_rfl
  rw [run_equalIn_agg (P := Tryz.prog) w 9999 58 _ _ ht hp, symEqT_fields 9998]
  rfl

/-- one bead's tick; none: not possible; whether it is folded -/
def slow (loss : Nat) (s : Pt) : Pt := (mulB s.1 (subB 1065353216 loss), mulB s.2 (subB 1065353216 loss))
def goOk (gr : Pt) (b : Bd) : Bool := pointB (plusP b.2 gr).1 (plusP b.2 gr).2 && pointB (plusP b.1 (plusP b.2 gr)).1 (plusP b.1 (plusP b.2 gr)).2
def goBd (mir : Int) (gr : Pt) (loss : Nat) (b : Bd) : Bd × Bool :=
  let r := foldP mir (plusP b.1 (plusP b.2 gr))
  let s := actP r.2.1.1 r.2.1.2 (plusP b.2 gr).1 (plusP b.2 gr).2
  if r.2.1 == (0, false) then ((r.1, s), false) else ((r.1, slow loss s), true)
/-- a tick of all beads -/
def allGo (gr : Pt) (bs : List Bd) : Bool := bs.all (goOk gr)
def goL (mir : Int) (gr : Pt) (loss : Nat) (bs : List Bd) : List Bd := bs.map (fun b => (goBd mir gr loss b).1)
def goF (mir : Int) (gr : Pt) (loss : Nat) (bs : List Bd) : List Bool := bs.map (fun b => (goBd mir gr loss b).2)
def boC (b : Bool) : List Value := [.bool b]
theorem boC_len (b : Bool) : (boC b).length = 1 := rfl
theorem flat_setBd {ys : List Bd} : ∀ {i : Nat}, i < ys.length → ∀ (a v : Pt), flat bdC (ys.set i (a, v)) = ((flat bdC ys).set (i * 2) (.complex .f32 a.1 a.2)).set (i * 2 + 1) (.complex .f32 v.1 v.2) := by
  induction ys with
  | nil => intro i h; simp at h
  | cons y ys ih =>
    intro i h a v
    cases i with
    | zero => rfl
    | succ i =>
      rw [List.set_cons_succ, flat_cons, flat_cons, ih (by simpa using h)]
      have e : (i + 1) * 2 = i * 2 + 1 + 1 := by omega
      rw [e]
      rfl
theorem flat_setBo {ys : List Bool} : ∀ {i : Nat}, i < ys.length → ∀ (f : Bool), flat boC (ys.set i f) = (flat boC ys).set i (.bool f) := by
  induction ys with
  | nil => intro i h; simp at h
  | cons y ys ih =>
    intro i h f
    cases i with
    | zero => rfl
    | succ i =>
      rw [List.set_cons_succ, flat_cons, flat_cons, ih (by simpa using h)]
      rfl
theorem own_drewN {w : World} {base : Nat} {E : TypeId} {sz : Nat} {v : Value} {n : Nat} {xs : List Value} (h : w.ownsRow base E sz v n xs) (k : Nat) : (w.drewN k).ownsRow base E sz v n xs := h
theorem set_same {α : Type} {l : List α} {k : Nat} {x : α} (h : l[k]? = some x) : l.set k x = l := by
  apply List.ext_getElem?
  intro i
  have hk := (List.getElem?_eq_some_iff.1 h).1
  by_cases e : i = k
  · subst e; rw [List.getElem?_set_self hk, h]
  · rw [List.getElem?_set_ne (by omega)]
/-- the first k are those of ys, the others those of xs -/
def mixL {α : Type} (ys xs : List α) (k : Nat) : List α := ys.take k ++ xs.drop k
theorem mixL_len {α : Type} {ys xs : List α} {k : Nat} (h : ys.length = xs.length) (hk : k ≤ xs.length) : (mixL ys xs k).length = xs.length := by
  unfold mixL; rw [List.length_append, List.length_take, List.length_drop]; omega
theorem mixL_set {α : Type} {ys xs : List α} {k : Nat} {y : α} (h : ys.length = xs.length) (hy : ys[k]? = some y) : (mixL ys xs k).set k y = mixL ys xs (k + 1) := by
  have hk := (List.getElem?_eq_some_iff.1 hy).1
  apply List.ext_getElem?
  intro i
  have hl1 := mixL_len h (show k ≤ xs.length by omega)
  have ht : (ys.take k).length = k := by rw [List.length_take]; omega
  have ht' : (ys.take (k + 1)).length = k + 1 := by rw [List.length_take]; omega
  by_cases e : i = k
  · subst e
    rw [List.getElem?_set_self (by omega)]
    unfold mixL
    rw [List.getElem?_append_left (by omega), List.getElem?_take_of_lt (by omega), hy]
  · rw [List.getElem?_set_ne (by omega)]
    unfold mixL
    by_cases hi : i < k
    · rw [List.getElem?_append_left (by omega), List.getElem?_append_left (by omega), List.getElem?_take_of_lt hi, List.getElem?_take_of_lt (by omega)]
    · rw [List.getElem?_append_right (by omega), List.getElem?_append_right (by omega), ht, ht', List.getElem?_drop, List.getElem?_drop]
      congr 1; omega
theorem mixL_zero {α : Type} (ys xs : List α) : mixL ys xs 0 = xs := by simp [mixL]
theorem mixL_all {α : Type} {ys xs : List α} (h : ys.length = xs.length) : mixL ys xs xs.length = ys := by
  unfold mixL
  rw [List.drop_length, List.append_nil, ← h, List.take_length]

theorem infoBo : (Tryz.prog.info? 4).map (fun i => (i.zero, i.size, i.bytes)) = some (some (.bool false), 1, 1) := by kernel_rfl
theorem flat_falses (n : Nat) : (madeCells #[.bool false] n).toList = flat boC (List.replicate n false) := by
  apply List.ext_getElem?
  intro j
  by_cases hj : j < n
  · have h1 := flat_get boC_len (List.replicate n false) j false (by simp [hj]) 0 (.bool false) rfl
    rw [Nat.mul_one, Nat.add_zero] at h1
    rw [h1]
    have hr : (Array.range n)[j]? = some j := by simp [hj]
    rw [madeCells, Array.getElem?_toList, Array.getElem?_map, hr]
    simp [Nat.mod_one]
  · rw [List.getElem?_eq_none (by simp [madeCells]; omega), List.getElem?_eq_none (by rw [flat_length boC_len, List.length_replicate]; omega)]
theorem own_falses {base n : Nat} (W : World) (hb : base ≤ W.heap.size) (hn : n ≤ maxLen) :
    (W.alloc (.cells (madeCells #[.bool false] n) 4)).ownsRow base 4 1 (.slice (some ⟨W.heap.size, 0, none⟩) n n) n (flat boC (List.replicate n false)) := by
  rw [← flat_falses]
  exact World.ownsRow_lit W _ n hb hn (by simp [madeCells])
def tumV (mir : Int) (gr : Pt) (loss : Nat) (s : Value) : Value := .agg #[.int .i64 mir, .complex .f32 gr.1 gr.2, .float .f32 loss, s]
def TickPost (mir : Int) (gr : Pt) (loss : Nat) (n : Nat) (bs : List Bd) (base : Nat) (e : Ending) (w' : World) : Prop :=
  (allGo gr bs = true → ∃ B d F m, e = .returned (.tuple #[tumV mir gr loss (.slice B n d), .slice F n m, .bool true]) ∧ w'.ownsRow base 54 2 (.slice B n d) n (flat bdC (goL mir gr loss bs)) ∧ w'.ownsRow base 4 1 (.slice F n m) n (flat boC (goF mir gr loss bs))) ∧
  (allGo gr bs = false → ∃ B d, e = .returned (.tuple #[tumV mir gr loss (.slice B n d), .slice none 0 0, .bool false]) ∧ w'.ownsRow base 54 2 (.slice B n d) n (flat bdC bs))

set_option maxRecDepth 100000 in
set_option maxHeartbeats 8000000 in
theorem tick_any (mir : Int) (gr : Pt) (loss : Nat) (A : Option Addr) (n c : Nat) (bs : List Bd) (w : World) (hn : n ≤ 8) (ha : Rd bdC 2 w w.heap.size A n bs) :
    Calls Tryz.prog 111 #[.agg #[.int .i64 mir, .complex .f32 gr.1 gr.2, .float .f32 loss, .slice A n c]] w fun e w' => TickPost mir gr loss n bs w.heap.size e w' ∧ Below w.heap.size w w' := by
  obtain ⟨i0, hi, hz0, hz1, hz2⟩ := info_parts infoBo
  have hmk := fun wx => run_make (P := Tryz.prog) wx 103 4 i0 _ Tryz.underlying103 hi hz0 .i64 .i64 n n (by omega) (Int.le_refl _) (by rw [hz2]; omega) (by omega)
  simp only [Int.toNat_natCast, hz1, Nat.mul_one] at hmk
  have hcl : (Value.bool false).cells = #[.bool false] := rfl
  rw [hcl] at hmk
  have HL := Lib.hid ha.1
  obtain ⟨gl, hgl⟩ : ∃ gl, gl = goL mir gr loss bs := ⟨_, rfl⟩
  obtain ⟨gf, hgf⟩ : ∃ gf, gf = goF mir gr loss bs := ⟨_, rfl⟩
  have GL := Lib.hid hgl
  have GF := Lib.hid hgf
  have hgll : gl.length = bs.length := by rw [hgl]; simp [goL]
  have hgfl : gf.length = (List.replicate n false).length := by rw [hgf]; simp [goF, ha.1]
  clear hgl hgf
  go_enter Tryz.func111, Tryz.ntmps111
  go_wp2_with fail
  obtain ⟨W, hWe⟩ : ∃ W, W = (w.alloc (Obj.cells #[.int .i64 mir, .complex .f32 gr.1 gr.2, .float .f32 loss, .slice A n c] 31)).alloc (Obj.cells #[.int .i64 0, .complex .f32 0 0, .float .f32 0, .slice none 0 0] 31) := ⟨_, rfl⟩
  have hW : Below w.heap.size w W := by rw [hWe]; (repeat (first | with_reducible assumption | exact Below.refl _ _ | (refine Below.setCell ?_ (by first | exact Nat.le_refl _ | (simp; done) | omega | (simp; omega)) _) | (refine below_drewN ?_ _) | (refine Below.drew ?_) | (refine Below.alloc ?_ (by first | exact Nat.le_refl _ | (simp; done) | omega | (simp; omega)) _) | (refine then_ ?_ (by with_reducible assumption)) | assumption | (refine then_ ?_ (by assumption))))
  have zW : W.heap.size = w.heap.size + 2 := by rw [hWe]; simp
  have c0 : W.cell? ⟨w.heap.size, 0, none⟩ = some (.int .i64 mir) := by rw [hWe]; simp [go_sem]
  have c1 : W.cell? ⟨w.heap.size, 1, none⟩ = some (.complex .f32 gr.1 gr.2) := by rw [hWe]; simp [go_sem]
  have c2 : W.cell? ⟨w.heap.size, 2, none⟩ = some (.float .f32 loss) := by rw [hWe]; simp [go_sem]
  have c3 : W.cell? ⟨w.heap.size, 3, none⟩ = some (.slice A n c) := by rw [hWe]; simp [go_sem]
  have d0 : W.cell? ⟨w.heap.size + 1, 0, none⟩ = some (.int .i64 0) := by rw [hWe]; simp [go_sem]
  have d1 : W.cell? ⟨w.heap.size + 1, 1, none⟩ = some (.complex .f32 0 0) := by rw [hWe]; simp [go_sem]
  have d2 : W.cell? ⟨w.heap.size + 1, 2, none⟩ = some (.float .f32 0) := by rw [hWe]; simp [go_sem]
  have d3 : W.cell? ⟨w.heap.size + 1, 3, none⟩ = some (.slice none 0 0) := by rw [hWe]; simp [go_sem]
  have df : ∀ j, W.frozen? ⟨w.heap.size + 1, j, none⟩ = false := by intro j; rw [hWe]; simp [go_sem]
  have DF := Lib.hid df
  rw [← hWe]
  clear hWe df
  refine (cloneTumble_any mir gr loss A n c bs _ hn (ha.step hW)).mono ?_
  rintro e w2 ⟨B, d, rfl, ho2, hb2⟩
  have z2 := hb2.size
  have lb0 : w.heap.size < w2.heap.size := by omega
  have lb1 : w.heap.size + 1 < w2.heap.size := by omega
  have c0' := keepC c0 hb2
  have c1' := keepC c1 hb2
  have c2' := keepC c2 hb2
  have c3' := keepC c3 hb2
  have DF2 := Lib.hid (fun j => (hb2.frozen (p := ⟨w.heap.size + 1, j, none⟩) (show w.heap.size + 1 < W.heap.size by omega)).trans (DF.out j))
  have d0' := keepC d0 hb2
  have d1' := keepC d1 hb2
  have d2' := keepC d2 hb2
  have d3' := keepC d3 hb2
  go_wp2_with fail
  obtain ⟨V, hVe⟩ : ∃ V, V = (w2.alloc (Obj.cells #[.int .i64 mir, .complex .f32 gr.1 gr.2, .float .f32 loss, .slice B n d] 31)).alloc (Obj.cells (madeCells #[.bool false] n) 4) := ⟨_, rfl⟩
  have hV : Below w2.heap.size w2 V := by rw [hVe]; (repeat (first | with_reducible assumption | exact Below.refl _ _ | (refine Below.setCell ?_ (by first | exact Nat.le_refl _ | (simp; done) | omega | (simp; omega)) _) | (refine below_drewN ?_ _) | (refine Below.drew ?_) | (refine Below.alloc ?_ (by first | exact Nat.le_refl _ | (simp; done) | omega | (simp; omega)) _) | (refine then_ ?_ (by with_reducible assumption)) | assumption | (refine then_ ?_ (by assumption))))
  have zV : V.heap.size = w2.heap.size + 2 := by rw [hVe]; simp
  have e0 : V.cell? ⟨w2.heap.size, 0, none⟩ = some (.int .i64 mir) := by rw [hVe]; simp [go_sem]
  have e1 : V.cell? ⟨w2.heap.size, 1, none⟩ = some (.complex .f32 gr.1 gr.2) := by rw [hVe]; simp [go_sem]
  have e2 : V.cell? ⟨w2.heap.size, 2, none⟩ = some (.float .f32 loss) := by rw [hVe]; simp [go_sem]
  have e3 : V.cell? ⟨w2.heap.size, 3, none⟩ = some (.slice B n d) := by rw [hVe]; simp [go_sem]
  have OF := Lib.hid (show V.ownsRow W.heap.size 4 1 (.slice (some ⟨w2.heap.size + 1, 0, none⟩) n n) n (flat boC (List.replicate n false)) by
    rw [hVe]
    have := own_falses (base := W.heap.size) (n := n) (w2.alloc (Obj.cells #[.int .i64 mir, .complex .f32 gr.1 gr.2, .float .f32 loss, .slice B n d] 31)) (by simp; omega) (by unfold maxLen; omega)
    simp only [World.size_alloc] at this
    exact this)
  have OB := Lib.hid (owns_below ho2 hV)
  have OFB := Lib.hid (off_ge ho2 (Nat.le_refl _))
  have OFC := Lib.hid (off_ge ho2 (Nat.le_succ _))
  have hWV := Lib.hid (hb2.trans (hV.mono hb2.size))
  rw [← hVe]
  have CW := Lib.hid (show (W.cell? ⟨w.heap.size, 0, none⟩ = some (.int .i64 mir) ∧ W.cell? ⟨w.heap.size, 1, none⟩ = some (.complex .f32 gr.1 gr.2) ∧ W.cell? ⟨w.heap.size, 2, none⟩ = some (.float .f32 loss) ∧ W.cell? ⟨w.heap.size, 3, none⟩ = some (.slice A n c)) from ⟨c0, c1, c2, c3⟩)
  have DW := Lib.hid (show (W.cell? ⟨w.heap.size + 1, 0, none⟩ = some (.int .i64 0) ∧ W.cell? ⟨w.heap.size + 1, 1, none⟩ = some (.complex .f32 0 0) ∧ W.cell? ⟨w.heap.size + 1, 2, none⟩ = some (.float .f32 0) ∧ W.cell? ⟨w.heap.size + 1, 3, none⟩ = some (.slice none 0 0)) from ⟨d0, d1, d2, d3⟩)
  clear hVe ho2 hb2 hV c0 c1 c2 c3 d0 d1 d2 d3 DF2 c0' c1' c2' c3' d0' d1' d2' d3'
  go_loopw [24] (fun i wr => ∃ k : Nat, k ≤ n ∧ i = .int .i64 k ∧ (∀ (i : Nat) b, i < k → bs[i]? = some b → goOk gr b = true) ∧ wr.ownsRow W.heap.size 54 2 (.slice B n d) n (flat bdC (mixL gl bs k)) ∧ wr.ownsRow W.heap.size 4 1 (.slice (some ⟨w2.heap.size + 1, 0, none⟩) n n) n (flat boC (mixL gf (List.replicate n false) k)) ∧ wr.cell? ⟨w2.heap.size, 0, none⟩ = some (.int .i64 mir) ∧ wr.cell? ⟨w2.heap.size, 1, none⟩ = some (.complex .f32 gr.1 gr.2) ∧ wr.cell? ⟨w2.heap.size, 2, none⟩ = some (.float .f32 loss) ∧ wr.cell? ⟨w2.heap.size, 3, none⟩ = some (.slice B n d) ∧ V.heap.size ≤ wr.heap.size ∧ Below W.heap.size W wr) (fun i _ => n - (intOf i).toNat)
  case atStart => exact ⟨0, Nat.zero_le _, rfl, fun i b h => by omega, by rw [mixL_zero]; exact OB.out, by rw [mixL_zero]; exact OF.out, e0, e1, e2, e3, Nat.le_refl _, hWV.out⟩
  case round =>
    clear e0 e1 e2 e3 OB OF hWV
    obtain ⟨k, hk, rfl, hall, hob, hof, e0, e1, e2, e3, hsz, hw⟩ := hrel
    have HALL := Lib.hid hall
    have OB := Lib.hid hob
    have OF := Lib.hid hof
    clear hall hob hof
    have lW0 : w.heap.size < W.heap.size := by omega
    have lW1 : w.heap.size + 1 < W.heap.size := by omega
    have c0 := (hw.cell (p := ⟨w.heap.size, 0, none⟩) lW0).trans CW.out.1
    have c1 := (hw.cell (p := ⟨w.heap.size, 1, none⟩) lW0).trans CW.out.2.1
    have c2 := (hw.cell (p := ⟨w.heap.size, 2, none⟩) lW0).trans CW.out.2.2.1
    have c3 := (hw.cell (p := ⟨w.heap.size, 3, none⟩) lW0).trans CW.out.2.2.2
    have d0 := (hw.cell (p := ⟨w.heap.size + 1, 0, none⟩) lW1).trans DW.out.1
    have d1 := (hw.cell (p := ⟨w.heap.size + 1, 1, none⟩) lW1).trans DW.out.2.1
    have d2 := (hw.cell (p := ⟨w.heap.size + 1, 2, none⟩) lW1).trans DW.out.2.2.1
    have d3 := (hw.cell (p := ⟨w.heap.size + 1, 3, none⟩) lW1).trans DW.out.2.2.2
    have fr : ∀ j, wr.frozen? ⟨w.heap.size + 1, j, none⟩ = false := fun j => (hw.frozen (p := ⟨w.heap.size + 1, j, none⟩) lW1).trans (DF.out j)
    have hWr : Below w.heap.size w wr := hW.trans (hw.mono hW.size)
    have hle : w.heap.size ≤ wr.heap.size := hWr.size
    have lr0 : w.heap.size < wr.heap.size := by omega
    have lr1 : w.heap.size + 1 < wr.heap.size := by omega
    have lr2 : w2.heap.size < wr.heap.size := by omega
    by_cases hlt : k < n
    · obtain ⟨bb, off, a, v, rfl, hbl, hx, x0, x1⟩ := (ha.step hWr).bd hlt
      obtain ⟨gB, rfl, _, _⟩ := owns_slice_at OB.out (by omega)
      have hki : (k : Int) < (n : Int) := by omega
      have hk0 : (0 : Int) ≤ (k : Int) := by omega
      have HX := Lib.hid hx
      have ra := ha.step hWr
      obtain ⟨P1, hP1⟩ : ∃ P, P = plusP v gr := ⟨_, rfl⟩
      obtain ⟨P2, hP2⟩ : ∃ P, P = plusP a P1 := ⟨_, rfl⟩
      have k1 := fun w => plus_any v gr w
      have k2 := fun w => plus_any a P1 w
      rw [← hP1] at k1
      rw [← hP2] at k2
      have K1 := Lib.hid k1
      have K2 := Lib.hid k2
      have GO := Lib.hid (show goOk gr (a, v) = (pointB P1.1 P1.2 && pointB P2.1 P2.2) by unfold goOk; rw [← hP1, ← hP2])
      have HP1 := Lib.hid hP1
      have HP2 := Lib.hid hP2
      clear k1 k2 hP1 hP2 hx
      cases h12 : (pointB P1.1 P1.2 && pointB P2.1 P2.2)
      · have NO := Lib.hid (show allGo gr bs = false from allX_no HX.out (by rw [GO.out]; exact h12))
        have l1 : w.heap.size ≤ w.heap.size + 1 := by omega
        cases h1 : pointB P1.1 P1.2
        · clear h12
          go_wp2_with (first
            | (go_at_call 81; (with_reducible refine (K1.out _).mono ?_); rintro e w' ⟨rfl, n1, rfl⟩)
            | (go_at_call 81; (with_reducible refine (K2.out _).mono ?_); rintro e w' ⟨rfl, n2, rfl⟩)
            | (go_at_call 42; refine (isPoint_any _ _ _).mono ?_; rintro e w' ⟨rfl, rfl⟩; simp only [h1])
            | (go_at_call 77; refine (cloneTumble_any mir gr loss _ n c bs _ hn (ra.step ?_)).mono ?_; (repeat (first | with_reducible assumption | exact Below.refl _ _ | (refine Below.setCell ?_ (by first | exact Nat.le_refl _ | (simp; done) | omega | (simp; omega)) _) | (refine below_drewN ?_ _) | (refine Below.drew ?_) | (refine Below.alloc ?_ (by first | exact Nat.le_refl _ | (simp; done) | omega | (simp; omega)) _) | (refine then_ ?_ (by with_reducible assumption)) | assumption | (refine then_ ?_ (by assumption)))); rintro e w9 ⟨B9, d9, rfl, ho9, hb9⟩; have hB9 := (show Below wr.heap.size wr w9 by (repeat (first | with_reducible assumption | exact Below.refl _ _ | (refine Below.setCell ?_ (by first | exact Nat.le_refl _ | (simp; done) | omega | (simp; omega)) _) | (refine below_drewN ?_ _) | (refine Below.drew ?_) | (refine Below.alloc ?_ (by first | exact Nat.le_refl _ | (simp; done) | omega | (simp; omega)) _) | (refine then_ ?_ (by with_reducible assumption)) | assumption | (refine then_ ?_ (by assumption))))); have O9 := Lib.hid (owns_mono (base := wr.heap.size) ho9 (by simp)); have d0' := keepC d0 hB9; have d1' := keepC d1 hB9; have d2' := keepC d2 hB9; have d3' := keepC d3 hB9; have f0 := keepF d0 (fr 0) hB9; have f1 := keepF d1 (fr 1) hB9; have f2 := keepF d2 (fr 2) hB9; have f3 := keepF d3 (fr 3) hB9; have hW9 := then_ hWr hB9; have z9 := hB9.size; clear ho9 hb9))
          refine bodyPost_ret (v := .tuple #[tumV mir gr loss (.slice B9 n d9), .slice none 0 0, .bool false]) (by simp [results, Tryz.results111, go_sem, tumV, d0', d1', d2', d3']) rfl ⟨⟨fun h => (by rw [NO.out] at h; cases h), fun _ => ⟨B9, d9, rfl, ?_⟩⟩, ?_⟩
          · exact owns_mono (ownsRow_setCell_below (ownsRow_setCell_below (ownsRow_setCell_below (ownsRow_setCell_below O9.out lr1 _) lr1 _) lr1 _) lr1 _) hle
          · exact (((hW9.setCell l1 _).setCell l1 _).setCell l1 _).setCell l1 _
        · have h2 : pointB P2.1 P2.2 = false := by rw [h1] at h12; simpa using h12
          clear h12
          go_wp2_with (first
            | (go_at_call 81; (with_reducible refine (K1.out _).mono ?_); rintro e w' ⟨rfl, n1, rfl⟩)
            | (go_at_call 81; (with_reducible refine (K2.out _).mono ?_); rintro e w' ⟨rfl, n2, rfl⟩)
            | (go_at_call 42; refine (isPoint_any _ _ _).mono ?_; rintro e w' ⟨rfl, rfl⟩; simp only [h1])
            | (go_at_call 42; refine (isPoint_any _ _ _).mono ?_; rintro e w' ⟨rfl, rfl⟩; simp only [h2])
            | (go_at_call 77; refine (cloneTumble_any mir gr loss _ n c bs _ hn (ra.step ?_)).mono ?_; (repeat (first | with_reducible assumption | exact Below.refl _ _ | (refine Below.setCell ?_ (by first | exact Nat.le_refl _ | (simp; done) | omega | (simp; omega)) _) | (refine below_drewN ?_ _) | (refine Below.drew ?_) | (refine Below.alloc ?_ (by first | exact Nat.le_refl _ | (simp; done) | omega | (simp; omega)) _) | (refine then_ ?_ (by with_reducible assumption)) | assumption | (refine then_ ?_ (by assumption)))); rintro e w9 ⟨B9, d9, rfl, ho9, hb9⟩; have hB9 := (show Below wr.heap.size wr w9 by (repeat (first | with_reducible assumption | exact Below.refl _ _ | (refine Below.setCell ?_ (by first | exact Nat.le_refl _ | (simp; done) | omega | (simp; omega)) _) | (refine below_drewN ?_ _) | (refine Below.drew ?_) | (refine Below.alloc ?_ (by first | exact Nat.le_refl _ | (simp; done) | omega | (simp; omega)) _) | (refine then_ ?_ (by with_reducible assumption)) | assumption | (refine then_ ?_ (by assumption))))); have O9 := Lib.hid (owns_mono (base := wr.heap.size) ho9 (by simp)); have d0' := keepC d0 hB9; have d1' := keepC d1 hB9; have d2' := keepC d2 hB9; have d3' := keepC d3 hB9; have f0 := keepF d0 (fr 0) hB9; have f1 := keepF d1 (fr 1) hB9; have f2 := keepF d2 (fr 2) hB9; have f3 := keepF d3 (fr 3) hB9; have hW9 := then_ hWr hB9; have z9 := hB9.size; clear ho9 hb9))
          refine bodyPost_ret (v := .tuple #[tumV mir gr loss (.slice B9 n d9), .slice none 0 0, .bool false]) (by simp [results, Tryz.results111, go_sem, tumV, d0', d1', d2', d3']) rfl ⟨⟨fun h => (by rw [NO.out] at h; cases h), fun _ => ⟨B9, d9, rfl, ?_⟩⟩, ?_⟩
          · exact owns_mono (ownsRow_setCell_below (ownsRow_setCell_below (ownsRow_setCell_below (ownsRow_setCell_below O9.out lr1 _) lr1 _) lr1 _) lr1 _) hle
          · exact (((hW9.setCell l1 _).setCell l1 _).setCell l1 _).setCell l1 _
      · simp only [Bool.and_eq_true] at h12
        obtain ⟨h1, h2⟩ := h12
        have hgo : goOk gr (a, v) = true := by rw [GO.out, h1, h2]; rfl
        have HGO := Lib.hid hgo
        obtain ⟨r, hr⟩ : ∃ r, r = foldP mir P2 := ⟨_, rfl⟩
        obtain ⟨q, ⟨tg, fg⟩, ob⟩ := r
        have kf := fun w => foldPoint_any mir P2 w
        rw [← hr] at kf
        simp only [foldV] at kf
        obtain ⟨s, hs⟩ : ∃ s, s = actP tg fg P1.1 P1.2 := ⟨_, rfl⟩
        have ka := fun w => actSym_any tg fg P1.1 P1.2 w
        rw [← hs] at ka
        simp only [cxV] at ka
        have KF := Lib.hid kf
        have KA := Lib.hid ka
        have kn := fun wx => run_neq_symT tg 0 fg false wx
        obtain ⟨z, hz⟩ : ∃ z, z = ((tg, fg) == ((0 : Int), false)) := ⟨_, rfl⟩
        rw [← hz] at kn
        have hgb : goBd mir gr loss (a, v) = if z then ((q, s), false) else ((q, slow loss s), true) := by
          unfold goBd
          simp only
          rw [← HP1.out, ← HP2.out, ← hr]
          simp only
          rw [← hs, ← hz]
        have GB := Lib.hid hgb
        have hneB : ¬ gB = w2.heap.size := fun e => OFB.out (by rw [e]; rfl)
        have hneF : ¬ gB = w2.heap.size + 1 := fun e => OFC.out (by rw [e]; rfl)
        have hneB' : ¬ w2.heap.size = gB := fun e => hneB e.symm
        have hneF' : ¬ w2.heap.size + 1 = gB := fun e => hneF e.symm
        have ofF : Off (.slice (some ⟨w2.heap.size + 1, 0, none⟩) n n) gB := by unfold Off Value.ownBlock; simp; exact hneF'
        have ofB : Off (.slice (some ⟨gB, 0, none⟩) n d) (w2.heap.size + 1) := by unfold Off Value.ownBlock; simp; exact hneF
        have lBW : W.heap.size ≤ gB := (OB.out.lt gB rfl).1
        have lFW : W.heap.size ≤ w2.heap.size + 1 := by omega
        have hallk : ∀ (i : Nat) b, i < k + 1 → bs[i]? = some b → goOk gr b = true := fun i b hi hb => by
          by_cases e : i = k
          · subst e
            rw [HX.out] at hb
            injection hb with hb
            rw [← hb]; exact HGO.out
          · exact HALL.out i b (by omega) hb
        have HALLK := Lib.hid hallk
        clear kf ka hr hs hz hgb hgo hallk HALL
        cases z
        · have hyB : gl[k]? = some (q, slow loss s) := by rw [GL.out]; unfold goL; rw [List.getElem?_map, HX.out]; simp [GB.out]
          have hyF : gf[k]? = some true := by rw [GF.out]; unfold goF; rw [List.getElem?_map, HX.out]; simp [GB.out]
          have SB := Lib.hid (mixL_set hgll hyB)
          have SF := Lib.hid (mixL_set hgfl hyF)
          have LB := Lib.hid (mixL_len (k := k) hgll (by have := HL.out; omega))
          have LF := Lib.hid (mixL_len (k := k) hgfl (by simp; omega))
          clear hyB hyF
          have hne0 : ¬ w.heap.size = w2.heap.size + 1 := by omega
          have hne0' : ¬ w2.heap.size + 1 = w.heap.size := by omega
          have hne2 : ¬ w2.heap.size = w2.heap.size + 1 := by omega
          go_wp2_with (first
          | (go_at_call 81; (with_reducible refine (K1.out _).mono ?_); rintro e w' ⟨rfl, n1, rfl⟩)
          | (go_at_call 81; (with_reducible refine (K2.out _).mono ?_); rintro e w' ⟨rfl, n2, rfl⟩)
          | (go_at_call 42; refine (isPoint_any _ _ _).mono ?_; rintro e w' ⟨rfl, rfl⟩; simp only [h1])
          | (go_at_call 42; refine (isPoint_any _ _ _).mono ?_; rintro e w' ⟨rfl, rfl⟩; simp only [h2])
          | (go_at_call 16; (with_reducible refine (KF.out _).mono ?_); rintro e w5 ⟨rfl, hb5⟩; have hB5 := (show Below wr.heap.size wr w5 by (repeat (first | with_reducible assumption | exact Below.refl _ _ | (refine Below.setCell ?_ (by first | exact Nat.le_refl _ | (simp; done) | omega | (simp; omega)) _) | (refine below_drewN ?_ _) | (refine Below.drew ?_) | (refine Below.alloc ?_ (by first | exact Nat.le_refl _ | (simp; done) | omega | (simp; omega)) _) | (refine then_ ?_ (by with_reducible assumption)) | assumption | (refine then_ ?_ (by assumption))))); have z5 := hB5.size; clear hb5)
          | (go_at_call 45; (with_reducible refine (KA.out _).mono ?_); rintro e w6 ⟨rfl, hb6⟩; have g0 := keepC (p := ⟨w5.heap.size, 0, none⟩) (v := .int .i64 tg) (by simp [go_sem]) hb6; have g1 := keepC (p := ⟨w5.heap.size, 1, none⟩) (v := .bool fg) (by simp [go_sem]) hb6; have hB56 := (show Below w5.heap.size w5 w6 by (repeat (first | with_reducible assumption | exact Below.refl _ _ | (refine Below.setCell ?_ (by first | exact Nat.le_refl _ | (simp; done) | omega | (simp; omega)) _) | (refine below_drewN ?_ _) | (refine Below.drew ?_) | (refine Below.alloc ?_ (by first | exact Nat.le_refl _ | (simp; done) | omega | (simp; omega)) _) | (refine then_ ?_ (by with_reducible assumption)) | assumption | (refine then_ ?_ (by assumption))))); have hB6 := then_ hB5 hB56; have z6 := hB6.size; have z56 := hB56.size; have lg5 := (show w5.heap.size < w6.heap.size from World.block_lt_of_cell? _ _ g0); have c2' := keepC c2 hB6; have e0' := keepC e0 hB6; have e1' := keepC e1 hB6; have e2' := keepC e2 hB6; have e3' := keepC e3 hB6; have OB6 := Lib.hid (owns_below OB.out hB6); have OF6 := Lib.hid (owns_below OF.out hB6); obtain ⟨u0, hu0⟩ := owns_cell OB6.out (k * 2) (by omega); obtain ⟨u1, hu1⟩ := owns_cell OB6.out (k * 2 + 1) (by omega); obtain ⟨u2, hu2⟩ := owns_cell OF6.out k (by omega); have fB0 := OB6.out.frozenAt (k * 2); have fB1 := OB6.out.frozenAt (k * 2 + 1); have fF := OF6.out.frozenAt k; have hw6 := hw.trans (hB6.mono (by omega)); have lgB := (OB6.out.lt gB rfl).2; have lr06 := (show w.heap.size < w6.heap.size by omega); have lr26 := (show w2.heap.size < w6.heap.size by omega); clear hb6)
          | (go_at_call 89; refine (diff_any _ _ _).mono ?_; rintro e w' ⟨rfl, n3, rfl⟩)
          | (go_at_call 84; refine (times_any _ _ _).mono ?_; rintro e w' ⟨rfl, n4, rfl⟩))
          go_roundw
          case rel =>
            refine ⟨k + 1, by omega, by go_num, HALLK.out, ?_, ?_, by simp [go_sem, e0'], by simp [go_sem, e1'], by simp [go_sem, e2'], by simp [go_sem, e3'], by simp; omega, ?_⟩
            · rw [← SB.out, flat_setBd (by rw [LB.out]; have := HL.out; omega)]
              exact ((own_drewN (own_set OB6.out ofB k (.bool true)) _).stored (k * 2) _).1.stored (k * 2 + 1) _ |>.1
            · rw [← SF.out, flat_setBo (by rw [LF.out]; simp; omega)]
              exact own_set (own_set (own_drewN (OF6.out.stored k _).1 _) ofF _ _) ofF _ _
            · exact (((below_drewN (hw6.setCell lFW _) _).setCell lBW _).setCell lBW _)
          case measure => simp [intOf]; omega
        · have hyB : gl[k]? = some (q, s) := by rw [GL.out]; unfold goL; rw [List.getElem?_map, HX.out]; simp [GB.out]
          have hyF : gf[k]? = some false := by rw [GF.out]; unfold goF; rw [List.getElem?_map, HX.out]; simp [GB.out]
          have SB := Lib.hid (mixL_set hgll hyB)
          have SF := Lib.hid (mixL_set hgfl hyF)
          have LB := Lib.hid (mixL_len (k := k) hgll (by have := HL.out; omega))
          clear hyB hyF
          go_wp2_with (first
          | (go_at_call 81; (with_reducible refine (K1.out _).mono ?_); rintro e w' ⟨rfl, n1, rfl⟩)
          | (go_at_call 81; (with_reducible refine (K2.out _).mono ?_); rintro e w' ⟨rfl, n2, rfl⟩)
          | (go_at_call 42; refine (isPoint_any _ _ _).mono ?_; rintro e w' ⟨rfl, rfl⟩; simp only [h1])
          | (go_at_call 42; refine (isPoint_any _ _ _).mono ?_; rintro e w' ⟨rfl, rfl⟩; simp only [h2])
          | (go_at_call 16; (with_reducible refine (KF.out _).mono ?_); rintro e w5 ⟨rfl, hb5⟩; have hB5 := (show Below wr.heap.size wr w5 by (repeat (first | with_reducible assumption | exact Below.refl _ _ | (refine Below.setCell ?_ (by first | exact Nat.le_refl _ | (simp; done) | omega | (simp; omega)) _) | (refine below_drewN ?_ _) | (refine Below.drew ?_) | (refine Below.alloc ?_ (by first | exact Nat.le_refl _ | (simp; done) | omega | (simp; omega)) _) | (refine then_ ?_ (by with_reducible assumption)) | assumption | (refine then_ ?_ (by assumption))))); have z5 := hB5.size; clear hb5)
          | (go_at_call 45; (with_reducible refine (KA.out _).mono ?_); rintro e w6 ⟨rfl, hb6⟩; have g0 := keepC (p := ⟨w5.heap.size, 0, none⟩) (v := .int .i64 tg) (by simp [go_sem]) hb6; have g1 := keepC (p := ⟨w5.heap.size, 1, none⟩) (v := .bool fg) (by simp [go_sem]) hb6; have hB56 := (show Below w5.heap.size w5 w6 by (repeat (first | with_reducible assumption | exact Below.refl _ _ | (refine Below.setCell ?_ (by first | exact Nat.le_refl _ | (simp; done) | omega | (simp; omega)) _) | (refine below_drewN ?_ _) | (refine Below.drew ?_) | (refine Below.alloc ?_ (by first | exact Nat.le_refl _ | (simp; done) | omega | (simp; omega)) _) | (refine then_ ?_ (by with_reducible assumption)) | assumption | (refine then_ ?_ (by assumption))))); have hB6 := then_ hB5 hB56; have z6 := hB6.size; have z56 := hB56.size; have lg5 := (show w5.heap.size < w6.heap.size from World.block_lt_of_cell? _ _ g0); have c2' := keepC c2 hB6; have e0' := keepC e0 hB6; have e1' := keepC e1 hB6; have e2' := keepC e2 hB6; have e3' := keepC e3 hB6; have OB6 := Lib.hid (owns_below OB.out hB6); have OF6 := Lib.hid (owns_below OF.out hB6); obtain ⟨u0, hu0⟩ := owns_cell OB6.out (k * 2) (by omega); obtain ⟨u1, hu1⟩ := owns_cell OB6.out (k * 2 + 1) (by omega); obtain ⟨u2, hu2⟩ := owns_cell OF6.out k (by omega); have fB0 := OB6.out.frozenAt (k * 2); have fB1 := OB6.out.frozenAt (k * 2 + 1); have fF := OF6.out.frozenAt k; have hw6 := hw.trans (hB6.mono (by omega)); have lgB := (OB6.out.lt gB rfl).2; have lr06 := (show w.heap.size < w6.heap.size by omega); have lr26 := (show w2.heap.size < w6.heap.size by omega); clear hb6))
          go_roundw
          case rel =>
            refine ⟨k + 1, by omega, by go_num, HALLK.out, ?_, ?_, by simp [go_sem, e0'], by simp [go_sem, e1'], by simp [go_sem, e2'], by simp [go_sem, e3'], by simp; omega, (hw6.setCell lBW _).setCell lBW _⟩
            · rw [← SB.out, flat_setBd (by rw [LB.out]; have := HL.out; omega)]
              exact ((OB6.out.stored (k * 2) _).1.stored (k * 2 + 1) _).1
            · have hsame : (mixL gf (List.replicate n false) k).set k false = mixL gf (List.replicate n false) k := by
                refine set_same ?_
                unfold mixL
                have ht : (gf.take k).length = k := by rw [List.length_take, hgfl, List.length_replicate]; omega
                rw [List.getElem?_append_right (by rw [ht]; exact Nat.le_refl _), ht, Nat.sub_self, List.getElem?_drop, List.getElem?_replicate, if_pos (by omega)]
              rw [← SF.out, hsame]
              exact own_set (own_set OF6.out ofF _ _) ofF _ _
          case measure => simp [intOf]; omega
    · obtain rfl : k = n := by omega
      have YES := Lib.hid (show allGo gr bs = true from allX_yes (fun i b h1 => HALL.out i b (by have := (List.getElem?_eq_some_iff.1 h1).1; have := HL.out; omega) h1))
      have eB : mixL gl bs k = gl := by rw [← HL.out]; exact mixL_all hgll
      have eF : mixL gf (List.replicate k false) k = gf := by have := mixL_all hgfl; rwa [List.length_replicate] at this
      have ob := OB.out
      have of_ := OF.out
      rw [eB, GL.out] at ob
      rw [eF, GF.out] at of_
      have OB' := Lib.hid ob
      have OF' := Lib.hid of_
      have f0 := fr 0
      have f1 := fr 1
      have f2 := fr 2
      have f3 := fr 3
      have l1 : w.heap.size ≤ w.heap.size + 1 := by omega
      have lle : w.heap.size ≤ W.heap.size := by omega
      clear ob of_ eB eF OB OF
      go_wp2
      refine bodyPost_ret (v := .tuple #[tumV mir gr loss (.slice B k d), .slice (some ⟨w2.heap.size + 1, 0, none⟩) k k, .bool true]) (by simp [results, Tryz.results111, go_sem, tumV, d0, d1, d2, d3]) rfl ⟨⟨fun _ => ⟨B, d, _, _, rfl, ?_, ?_⟩, fun h => by rw [YES.out] at h; cases h⟩, ?_⟩
      · exact owns_mono (ownsRow_setCell_below (ownsRow_setCell_below (ownsRow_setCell_below (ownsRow_setCell_below OB'.out lW1 _) lW1 _) lW1 _) lW1 _) lle
      · exact owns_mono (ownsRow_setCell_below (ownsRow_setCell_below (ownsRow_setCell_below (ownsRow_setCell_below OF'.out lW1 _) lW1 _) lW1 _) lW1 _) lle
      · exact (((hWr.setCell l1 _).setCell l1 _).setCell l1 _).setCell l1 _
end Go.Proofs.YthlphmojldbpkaaGreat
