/- Run · TumL · TumS · TumA · SideL · DrawTum · ShowP · RunL · DrawnL · Clone · DelI · CloneS · StepT · HapS -/
import Derived.Test.YtoafldgngbaddaaTick
import Derived.Test.YtoafldgngbaddaaM3
import Derived.Test.YtoafldgngbaddaaM0
import Derived.Test.YtoafldgngbaddaaM4
import Derived.Deep.CutRange
import Derived.Test.YtoafldgngbaddaaFltQ
import Derived.Deep.RegionLaw

/- run, RunTumble: the program's. -/
namespace Go.Proofs.Ytoafldgngbaddaa
open Go.RowKit
attribute [local go_sem] run_store_float run_store_complex

def addF (c : Int) (f : Bool) : Int := if f then c + 1 else c
/-- k ticks: the beads, and how often each was folded -/
def runUp (mir : Int) (gr : Pt) (loss : Nat) (bs : List Bd) : Nat → Option (List Bd × List Int)
  | 0 => some (bs, List.replicate bs.length 0)
  | k + 1 => match runUp mir gr loss bs k with
    | some (b, c) => if allGo gr b then some (goL mir gr loss b, List.zipWith addF c (goF mir gr loss b)) else none
    | none => none
theorem runUp_yes {mir : Int} {gr : Pt} {loss : Nat} {bs b : List Bd} {c : List Int} {k : Nat} (h : runUp mir gr loss bs k = some (b, c)) (hg : allGo gr b = true) : runUp mir gr loss bs (k + 1) = some (goL mir gr loss b, List.zipWith addF c (goF mir gr loss b)) := by
  unfold runUp; rw [h]; simp [hg]
theorem runUp_no {mir : Int} {gr : Pt} {loss : Nat} {bs b : List Bd} {c : List Int} {k : Nat} (h : runUp mir gr loss bs k = some (b, c)) (hg : allGo gr b = false) : runUp mir gr loss bs (k + 1) = none := by
  unfold runUp; rw [h]; simp [hg]
theorem runUp_none {mir : Int} {gr : Pt} {loss : Nat} {bs : List Bd} {k : Nat} (h : runUp mir gr loss bs k = none) : ∀ j, runUp mir gr loss bs (k + j) = none
  | 0 => h
  | j + 1 => by
    have ih := runUp_none h j
    show runUp mir gr loss bs (k + j + 1) = none
    unfold runUp; rw [ih]
theorem runUp_len {mir : Int} {gr : Pt} {loss : Nat} {bs : List Bd} : ∀ {k : Nat} {b : List Bd} {c : List Int}, runUp mir gr loss bs k = some (b, c) → b.length = bs.length ∧ c.length = bs.length
  | 0, b, c, h => by
    unfold runUp at h
    injection h with h
    injection h with h1 h2
    subst h1 h2
    simp
  | k + 1, b, c, h => by
    cases hk : runUp mir gr loss bs k with
    | none => unfold runUp at h; rw [hk] at h; cases h
    | some r =>
      obtain ⟨b', c'⟩ := r
      have ih := runUp_len hk
      unfold runUp at h
      rw [hk] at h
      simp only at h
      split at h
      · injection h with h
        injection h with h1 h2
        subst h1 h2
        simp [goL, goF, ih.1, ih.2]
      · cases h
def runOk (mir : Int) (gr : Pt) (loss : Nat) (bs : List Bd) (N : Int) : Option (List Bd × List Int) := if tumB mir gr loss bs && inB N 0 64 then runUp mir gr loss bs N.toNat else none
def RunPost (mir : Int) (gr : Pt) (loss : Nat) (n : Nat) (bs : List Bd) (N : Int) (base : Nat) (e : Ending) (w' : World) : Prop :=
  (∀ b c, runOk mir gr loss bs N = some (b, c) → ∃ B d F m, e = .returned (.tuple #[tumV mir gr loss (.slice B n d), .slice F n m, .bool true]) ∧ w'.ownsRow base 103 2 (.slice B n d) n (flat bdC b) ∧ w'.ownsRow base 3 1 (.slice F n m) n (flat intC c)) ∧
  (runOk mir gr loss bs N = none → ∃ B d, e = .returned (.tuple #[tumV mir gr loss (.slice B n d), .slice none 0 0, .bool false]) ∧ w'.ownsRow base 103 2 (.slice B n d) n (flat bdC bs))

theorem infoIntR : (Try.prog.info? 3).map (fun i => (i.zero, i.size, i.bytes)) = some (some (.int .i64 0), 1, 8) := by kernel_rfl
theorem flat_zeros (n : Nat) : (madeCells #[.int .i64 0] n).toList = flat intC (List.replicate n 0) := by
  apply List.ext_getElem?
  intro j
  by_cases hj : j < n
  · have h1 := flat_get intC_len (List.replicate n 0) j 0 (by simp [hj]) 0 (.int .i64 0) rfl
    rw [Nat.mul_one, Nat.add_zero] at h1
    rw [h1]
    have hr : (Array.range n)[j]? = some j := by simp [hj]
    rw [madeCells, Array.getElem?_toList, Array.getElem?_map, hr]
    simp [Nat.mod_one]
  · rw [List.getElem?_eq_none (by simp [madeCells]; omega), List.getElem?_eq_none (by rw [flat_length intC_len, List.length_replicate]; omega)]
theorem own_zeros {base n : Nat} (W : World) (hb : base ≤ W.heap.size) (hn : n ≤ maxLen) :
    (W.alloc (.cells (madeCells #[.int .i64 0] n) 3)).ownsRow base 3 1 (.slice (some ⟨W.heap.size, 0, none⟩) n n) n (flat intC (List.replicate n 0)) := by
  rw [← flat_zeros]
  exact World.ownsRow_lit W _ n hb hn (by simp [madeCells])

theorem flat_setI {ys : List Int} : ∀ {i : Nat}, i < ys.length → ∀ (x : Int), flat intC (ys.set i x) = (flat intC ys).set i (.int .i64 x) := by
  induction ys with
  | nil => intro i h; simp at h
  | cons y ys ih =>
    intro i h x
    cases i with
    | zero => rfl
    | succ i =>
      rw [List.set_cons_succ, flat_cons, flat_cons, ih (by simpa using h)]
      rfl
theorem mixL_at {α : Type} {ys xs : List α} {k : Nat} (h : ys.length = xs.length) (hk : k < xs.length) : (mixL ys xs k)[k]? = xs[k]? := by
  unfold mixL
  have ht : (ys.take k).length = k := by rw [List.length_take]; omega
  rw [List.getElem?_append_right (by omega), ht, Nat.sub_self, List.getElem?_drop, Nat.add_zero]
theorem runUp_bd {mir : Int} {gr : Pt} {loss : Nat} {bs : List Bd} : ∀ {k : Nat} {b : List Bd} {c : List Int}, runUp mir gr loss bs k = some (b, c) → ∀ (i : Nat) x, c[i]? = some x → 0 ≤ x ∧ x ≤ (k : Int)
  | 0, b, c, h, i, x, hx => by
    unfold runUp at h
    injection h with h
    injection h with h1 h2
    subst h1 h2
    rw [List.getElem?_replicate] at hx
    split at hx
    · injection hx with hx; subst hx; simp
    · cases hx
  | k + 1, b, c, h, i, x, hx => by
    cases hk : runUp mir gr loss bs k with
    | none => unfold runUp at h; rw [hk] at h; cases h
    | some r =>
      obtain ⟨b', c'⟩ := r
      have ih := runUp_bd hk
      unfold runUp at h
      rw [hk] at h
      simp only at h
      split at h
      · injection h with h
        injection h with h1 h2
        subst h1 h2
        rw [List.getElem?_zipWith] at hx
        cases h3 : c'[i]? with
        | none => rw [h3] at hx; cases hx
        | some y =>
          cases h4 : (goF mir gr loss b')[i]? with
          | none => rw [h3, h4] at hx; cases hx
          | some f =>
            rw [h3, h4] at hx
            simp at hx
            have := ih i y h3
            subst hx
            unfold addF
            split <;> omega
      · cases h
theorem Rd.bo {w : World} {B : Nat} {A : Option Addr} {n k : Nat} {xs : List Bool} (h : Rd boC 1 w B A n xs) (hk : k < n) :
    ∃ b off x, A = some ⟨b, off, none⟩ ∧ b < B ∧ xs[k]? = some x ∧ w.cell? ⟨b, off + k, none⟩ = some (.bool x) := by
  obtain ⟨b, off, x, e, hb, hx, hc⟩ := h.at_ hk
  have := hc 0 _ rfl
  rw [Nat.mul_one, Nat.add_zero] at this
  exact ⟨b, off, x, e, hb, hx, this⟩

end Go.Proofs.Ytoafldgngbaddaa

/- Plain laws on tumbles: symmetries on keys; a tick keeps a tumble valid; ticks in parts. -/
namespace Go.Proofs.Ytoafldgngbaddaa
open Go.RowKit

def keyP (p : Pt) : Int × Int := (key p.1, key p.2)
def finP (p : Pt) : Prop := finB p.1 = true ∧ finB p.2 = true
theorem rotB_key {p : Pt} (h : finP p) : keyP (rotB p) = rI (keyP p) ∧ finP (rotB p) := by
  obtain ⟨h1, h2⟩ := h
  obtain ⟨a, b⟩ := neg_key h2
  exact ⟨by unfold rotB keyP rI; rw [a], b, h1⟩
theorem rotN_key {p : Pt} (h : finP p) : ∀ n, keyP (rotN n p) = rIN n (keyP p) ∧ finP (rotN n p)
  | 0 => ⟨rfl, h⟩
  | n + 1 => by
    obtain ⟨a, b⟩ := rotN_key h n
    obtain ⟨c, d⟩ := rotB_key b
    exact ⟨by show keyP (rotB (rotN n p)) = rI (rIN n (keyP p)); rw [c, a], d⟩
theorem flip_key {f : Bool} {y : Nat} (h : finB y = true) : key (flipB f y) = (if f then -key y else key y) ∧ finB (flipB f y) = true := by
  cases f
  · exact ⟨rfl, h⟩
  · exact neg_key h
theorem actI_key {t : Int} {f : Bool} {re im : Nat} (h : finP (re, im)) : keyP (actI t f re im) = aI t f (keyP (re, im)) ∧ finP (actI t f re im) := by
  obtain ⟨h1, h2⟩ := h
  obtain ⟨a, b⟩ := flip_key (f := f) h2
  obtain ⟨c, d1, d2⟩ := rotN_key (p := (re, flipB f im)) ⟨h1, b⟩ t.toNat
  obtain ⟨e1, e2⟩ := clean_key d1
  obtain ⟨g1, g2⟩ := clean_key d2
  refine ⟨?_, e2, g2⟩
  show (key _, key _) = _
  unfold actI
  dsimp only
  rw [e1, g1]
  show keyP (rotN t.toNat (re, flipB f im)) = _
  rw [c]
  unfold aI keyP
  dsimp only
  rw [a]
theorem point_fin {p : Pt} (h : pointB p.1 p.2 = true) : finP p := by
  unfold pointB at h
  rw [Bool.and_eq_true] at h
  exact ⟨reach_fin h.1, reach_fin h.2⟩
theorem point_key {p : Pt} (h : finP p) : pointB p.1 p.2 = true ↔ Sm 1166016512 (keyP p) := by
  unfold pointB
  rw [Bool.and_eq_true, reach_key h.1, reach_key h.2, decide_eq_true_eq, decide_eq_true_eq]
  unfold Sm keyP
  dsimp only
  omega
theorem actP_point (t : Int) (f : Bool) (re im : Nat) : pointB (actP t f re im).1 (actP t f re im).2 = true := by
  unfold actP
  split
  · rename_i h
    rw [Bool.and_eq_true] at h
    have hf := point_fin (p := (re, im)) h.2
    obtain ⟨a, b⟩ := actI_key (t := t) (f := f) hf
    rw [point_key b, a]
    exact aI_sm ((point_key hf).1 h.2) _ _
  · decide +kernel

theorem foldP_wedge {kind : Int} (hk : inB kind 0 3 = true) (z : Pt) : wedgeB kind (foldP kind z).1 = true := by
  have h0 : wedgeB kind (0, 0) = true := by
    obtain ⟨k1, k2⟩ := inB_true hk
    have hc : kind = 0 ∨ kind = 1 ∨ kind = 2 ∨ kind = 3 := by omega
    rcases hc with rfl | rfl | rfl | rfl <;> decide +kernel
  unfold foldP
  split
  · unfold foldG
    split
    · rename_i g hg
      have := List.find?_some hg
      exact this
    · exact h0
  · exact h0
theorem slow_point {loss : Nat} {s : Pt} (hl : partB loss = true) (hs : pointB s.1 s.2 = true) : pointB (slow loss s).1 (slow loss s).2 = true := by
  obtain ⟨f1, f2⟩ := point_fin hs
  obtain ⟨a1, a2⟩ := mul_key f1 (one_sub hl)
  obtain ⟨b1, b2⟩ := mul_key f2 (one_sub hl)
  unfold pointB at hs ⊢
  rw [Bool.and_eq_true, reach_key f1, reach_key f2, decide_eq_true_eq, decide_eq_true_eq] at hs
  unfold slow
  dsimp only
  rw [Bool.and_eq_true, reach_key a1, reach_key b1, decide_eq_true_eq, decide_eq_true_eq]
  omega
theorem goBd_ok {mir : Int} {gr : Pt} {loss : Nat} {b : Bd} (hm : inB mir 0 3 = true) (hl : partB loss = true) : okBd mir (goBd mir gr loss b).1 = true := by
  unfold goBd
  dsimp only
  split
  · unfold okBd
    rw [Bool.and_eq_true]
    exact ⟨foldP_wedge hm _, actP_point _ _ _ _⟩
  · unfold okBd
    rw [Bool.and_eq_true]
    exact ⟨foldP_wedge hm _, slow_point hl (actP_point _ _ _ _)⟩
theorem tumB_parts {mir : Int} {gr : Pt} {loss : Nat} {bs : List Bd} : tumB mir gr loss bs = true ↔ inB mir 0 3 = true ∧ pointB gr.1 gr.2 = true ∧ partB loss = true ∧ bs.length ≤ 8 ∧ bs.all (okBd mir) = true := by
  unfold tumB
  simp only [Bool.and_eq_true, decide_eq_true_eq]
theorem goL_tum {mir : Int} {gr : Pt} {loss : Nat} {bs : List Bd} (h : tumB mir gr loss bs = true) : tumB mir gr loss (goL mir gr loss bs) = true := by
  rw [tumB_parts] at h ⊢
  obtain ⟨h1, h2, h3, h4, h5⟩ := h
  refine ⟨h1, h2, h3, by simpa [goL] using h4, ?_⟩
  rw [List.all_eq_true]
  intro x hx
  unfold goL at hx
  obtain ⟨b, _, rfl⟩ := List.mem_map.1 hx
  exact goBd_ok h1 h3
theorem runUp_tum {mir : Int} {gr : Pt} {loss : Nat} {bs : List Bd} (h : tumB mir gr loss bs = true) : ∀ {k : Nat} {b : List Bd} {c : List Int}, runUp mir gr loss bs k = some (b, c) → tumB mir gr loss b = true
  | 0, b, c, e => by
    unfold runUp at e
    injection e with e
    injection e with e1 e2
    rw [← e1]; exact h
  | k + 1, b, c, e => by
    cases hk : runUp mir gr loss bs k with
    | none => unfold runUp at e; rw [hk] at e; cases e
    | some r =>
      obtain ⟨b', c'⟩ := r
      have ih := runUp_tum h hk
      unfold runUp at e
      rw [hk] at e
      simp only at e
      split at e
      · injection e with e
        injection e with e1 e2
        rw [← e1]; exact goL_tum ih
      · cases e
theorem zip_zeros {c : List Int} {n : Nat} (h : c.length = n) : List.zipWith (· + ·) c (List.replicate n (0 : Int)) = c := by
  apply List.ext_getElem
  · simp [h]
  · intro i h1 h2
    simp
theorem zip_addF {c c' : List Int} {f : List Bool} : List.zipWith addF (List.zipWith (· + ·) c c') f = List.zipWith (· + ·) c (List.zipWith addF c' f) := by
  apply List.ext_getElem
  · simp [Nat.min_assoc]
  · intro i h1 h2
    simp only [List.getElem_zipWith]
    unfold addF
    split <;> omega
/-- ticks in two parts -/
theorem runUp_add {mir : Int} {gr : Pt} {loss : Nat} {bs b : List Bd} {c : List Int} {j : Nat} (h : runUp mir gr loss bs j = some (b, c)) : ∀ k, runUp mir gr loss bs (j + k) = match runUp mir gr loss b k with
    | some (b', c') => some (b', List.zipWith (· + ·) c c')
    | none => none
  | 0 => by
    have hl := runUp_len h
    have e : runUp mir gr loss b 0 = some (b, List.replicate b.length 0) := rfl
    show runUp mir gr loss bs j = _
    rw [h, e]
    dsimp only
    rw [zip_zeros (by omega)]
  | k + 1 => by
    have ih := runUp_add h k
    cases hk : runUp mir gr loss b k with
    | none =>
      rw [hk] at ih
      have e1 : runUp mir gr loss bs (j + (k + 1)) = none := runUp_none ih 1
      have e2 : runUp mir gr loss b (k + 1) = none := runUp_none hk 1
      rw [e1, e2]
    | some r =>
      obtain ⟨b', c'⟩ := r
      rw [hk] at ih
      cases hg : allGo gr b'
      · have e1 : runUp mir gr loss bs (j + (k + 1)) = none := runUp_no ih hg
        have e2 : runUp mir gr loss b (k + 1) = none := runUp_no hk hg
        rw [e1, e2]
      · have e1 : runUp mir gr loss bs (j + (k + 1)) = _ := runUp_yes ih hg
        have e2 : runUp mir gr loss b (k + 1) = _ := runUp_yes hk hg
        rw [e1, e2]
        dsimp only
        rw [zip_addF]
end Go.Proofs.Ytoafldgngbaddaa

/- FoldPoint of the specification: its place lies in the wedge. Plain. -/
namespace Go.Proofs.Ytoafldgngbaddaa
open Go.RowKit

theorem actS_key {t : Int} {f : Bool} {re im : Nat} (h : finP (re, im)) : keyP (actS t f re im) = aI t f (keyP (re, im)) ∧ finP (actS t f re im) := by
  obtain ⟨h1, h2⟩ := h
  obtain ⟨x1, x2, _⟩ := add_key h1
  obtain ⟨y1, y2, _⟩ := add_key h2
  obtain ⟨a, b⟩ := flip_key (f := f) y2
  obtain ⟨c, d⟩ := rotN_key (p := (addB re 0, flipB f (addB im 0))) ⟨x2, b⟩ t.toNat
  refine ⟨?_, d⟩
  unfold actS
  rw [c]
  unfold aI keyP
  dsimp only
  rw [a, x1, y1]
theorem sideS_eq {kind : Int} {p : Pt} (h : finP p) : sideS kind p = sideB kind p := by
  unfold sideS sideB
  rw [ge_le h.2 (show finB 0 = true by decide)]
theorem foldS_wedge {kind : Int} (hk : inB kind 0 3 = true) (z : Pt) : wedgeB kind (foldS kind z).1 = true := by
  have h0 : wedgeB kind (0, 0) = true := by
    obtain ⟨k1, k2⟩ := inB_true hk
    have hc : kind = 0 ∨ kind = 1 ∨ kind = 2 ∨ kind = 3 := by omega
    rcases hc with rfl | rfl | rfl | rfl <;> decide +kernel
  unfold foldS
  split
  · rename_i hp
    unfold foldH
    split
    · rename_i g hg
      have h1 := List.find?_some hg
      have hf := point_fin hp
      obtain ⟨a, b⟩ := actS_key (t := g.1) (f := g.2) (re := z.1) (im := z.2) hf
      have h2 : pointB (actS g.1 g.2 z.1 z.2).1 (actS g.1 g.2 z.1 z.2).2 = true := by
        rw [point_key b, a]
        exact aI_sm ((point_key hf).1 hp) _ _
      unfold wedgeB
      rw [Bool.and_eq_true]
      refine ⟨h2, ?_⟩
      dsimp only
      rw [← sideS_eq b]
      exact h1
    · exact h0
  · exact h0
end Go.Proofs.Ytoafldgngbaddaa

/- Plain laws on tumbles, by keys: sums and symmetries, the fold of both versions, one bead's tick. -/
namespace Go.Proofs.Ytoafldgngbaddaa
open Go.RowKit

def cwP (p : Pt) : Prop := cw p.1 ∧ cw p.2
theorem cwP_fin {p : Pt} (h : cwP p) : finP p := ⟨h.1.1, h.2.1⟩
theorem cwP_ext {p q : Pt} (hp : cwP p) (hq : cwP q) (h : keyP p = keyP q) : p = q := by
  unfold keyP at h
  injection h with h1 h2
  exact Prod.ext (cw_ext hp.1 hq.1 h1) (cw_ext hp.2 hq.2 h2)
theorem plus_cw {p q : Pt} (hp : finP p) (hq : finP q) : cwP (plusP p q) := ⟨addB_cw hp.1 hq.1, addB_cw hp.2 hq.2⟩
def plusZ (a b : Int × Int) : Int × Int := (key (addK a.1 b.1), key (addK a.2 b.2))
theorem plus_keys {p q : Pt} (hp : finP p) (hq : finP q) : keyP (plusP p q) = plusZ (keyP p) (keyP q) := by
  unfold keyP plusP plusZ
  dsimp only
  rw [add_keys hp.1 hq.1, add_keys hp.2 hq.2]
theorem plusZ_rI (a b : Int × Int) : plusZ (rI a) (rI b) = rI (plusZ a b) := by
  unfold plusZ rI
  dsimp only
  rw [addK_neg]
theorem plusZ_rIN (a b : Int × Int) : ∀ n, plusZ (rIN n a) (rIN n b) = rIN n (plusZ a b)
  | 0 => rfl
  | n + 1 => by show plusZ (rI (rIN n a)) (rI (rIN n b)) = rI (rIN n _); rw [plusZ_rI, plusZ_rIN a b n]
theorem plusZ_aI (t : Int) (f : Bool) (a b : Int × Int) : plusZ (aI t f a) (aI t f b) = aI t f (plusZ a b) := by
  unfold aI
  rw [plusZ_rIN]
  cases f
  · rfl
  · unfold plusZ; simp only [if_true]; rw [addK_neg]
theorem rotB_cw {p : Pt} (h : cwP p) : cwP (rotB p) := ⟨neg_cw h.2.1, h.1⟩
theorem rotN_cw {p : Pt} (h : cwP p) : ∀ n, cwP (rotN n p)
  | 0 => h
  | n + 1 => rotB_cw (rotN_cw h n)
theorem flip_cw {f : Bool} {y : Nat} (h : cw y) : cw (flipB f y) := by
  cases f
  · exact h
  · exact neg_cw h.1
theorem actI_cw {t : Int} {f : Bool} {re im : Nat} (h : cwP (re, im)) : cwP (actI t f re im) := by
  have hr := rotN_cw (p := (re, flipB f im)) ⟨h.1, flip_cw h.2⟩ t.toNat
  exact ⟨cleanB_cw hr.1.1 (cw_lt hr.1), cleanB_cw hr.2.1 (cw_lt hr.2)⟩
theorem actS_cw {t : Int} {f : Bool} {re im : Nat} (h : finP (re, im)) : cwP (actS t f re im) :=
  rotN_cw (p := (addB re 0, flipB f (addB im 0))) ⟨(add_key h.1).2.2, flip_cw (add_key h.2).2.2⟩ t.toNat
theorem actS_actI {t : Int} {f : Bool} {re im : Nat} (h : cwP (re, im)) : actS t f re im = actI t f re im :=
  cwP_ext (actS_cw (cwP_fin h)) (actI_cw h) (by rw [(actS_key (cwP_fin h)).1, (actI_key (cwP_fin h)).1])
theorem actP_yes {t : Int} {f : Bool} {re im : Nat} (ht : inB t 0 3 = true) (h : pointB re im = true) : actP t f re im = actI t f re im := by
  unfold actP
  rw [ht, h]; rfl

/-- the wedge on integers -/
def sideI (kind : Int) (p : Int × Int) : Bool := if kind = 0 then true else if kind = 1 then decide (0 ≤ p.2) else if kind = 2 then decide (0 ≤ p.1) && decide (0 ≤ p.2) else if kind = 3 then decide (0 ≤ p.2) && decide (p.2 ≤ p.1) else false
theorem f0 : finB 0 = true := by decide
theorem k0 : key 0 = 0 := by decide
theorem sideB_key {kind : Int} {p : Pt} (h : finP p) : sideB kind p = sideI kind (keyP p) := by
  unfold sideB sideI keyP
  rw [ge_le h.1 f0, ge_le h.2 f0, leB_fin f0 h.2, leB_fin h.2 h.1, leB_fin f0 h.1, k0]
theorem syms0 : symsL 0 = [(0, false)] := by decide
theorem syms1 : symsL 1 = [(0, false), (0, true)] := by decide
theorem syms2 : symsL 2 = [(0, false), (2, false), (0, true), (2, true)] := by decide
theorem syms3 : symsL 3 = [(0, false), (1, false), (2, false), (3, false), (0, true), (1, true), (2, true), (3, true)] := by decide
theorem kinds {kind : Int} (hk : inB kind 0 3 = true) : kind = 0 ∨ kind = 1 ∨ kind = 2 ∨ kind = 3 := by
  obtain ⟨k1, k2⟩ := inB_true hk
  omega
theorem a00 (x y : Int) : aI 0 false (x, y) = (x, y) := rfl
theorem a10 (x y : Int) : aI 1 false (x, y) = (-y, x) := rfl
theorem a20 (x y : Int) : aI 2 false (x, y) = (-x, -y) := rfl
theorem a30 (x y : Int) : aI 3 false (x, y) = (-(-y), -x) := rfl
theorem a01 (x y : Int) : aI 0 true (x, y) = (x, -y) := rfl
theorem a11 (x y : Int) : aI 1 true (x, y) = (-(-y), x) := rfl
theorem a21 (x y : Int) : aI 2 true (x, y) = (-x, -(-y)) := rfl
theorem a31 (x y : Int) : aI 3 true (x, y) = (-(-(-y)), -x) := rfl
theorem side1 {a b : Int} (h : 0 ≤ b) : sideI 1 (a, b) = true := by simp [sideI, h]
theorem side2 {a b : Int} (h : 0 ≤ a) (h2 : 0 ≤ b) : sideI 2 (a, b) = true := by simp [sideI, h, h2]
theorem side3 {a b : Int} (h : 0 ≤ b) (h2 : b ≤ a) : sideI 3 (a, b) = true := by simp [sideI, h, h2]
theorem hitI {kind : Int} (hk : inB kind 0 3 = true) (p : Int × Int) : ∃ g ∈ symsL kind, sideI kind (aI g.1 g.2 p) = true := by
  obtain ⟨x, y⟩ := p
  rcases kinds hk with rfl | rfl | rfl | rfl
  · exact ⟨(0, false), by rw [syms0]; decide, rfl⟩
  · rw [syms1]
    by_cases h : 0 ≤ y
    · exact ⟨(0, false), by decide, side1 (a := x) (b := y) h⟩
    · exact ⟨(0, true), by decide, side1 (a := x) (b := -y) (by omega)⟩
  · rw [syms2]
    by_cases h : 0 ≤ y <;> by_cases h2 : 0 ≤ x
    · exact ⟨(0, false), by decide, side2 (a := x) (b := y) (by omega) (by omega)⟩
    · exact ⟨(2, true), by decide, side2 (a := -x) (b := -(-y)) (by omega) (by omega)⟩
    · exact ⟨(0, true), by decide, side2 (a := x) (b := -y) (by omega) (by omega)⟩
    · exact ⟨(2, false), by decide, side2 (a := -x) (b := -y) (by omega) (by omega)⟩
  · rw [syms3]
    by_cases h : 0 ≤ y <;> by_cases h2 : 0 ≤ x
    · by_cases h3 : y ≤ x
      · exact ⟨(0, false), by decide, side3 (a := x) (b := y) (by omega) (by omega)⟩
      · exact ⟨(1, true), by decide, side3 (a := -(-y)) (b := x) (by omega) (by omega)⟩
    · by_cases h3 : y ≤ -x
      · exact ⟨(2, true), by decide, side3 (a := -x) (b := -(-y)) (by omega) (by omega)⟩
      · exact ⟨(3, false), by decide, side3 (a := -(-y)) (b := -x) (by omega) (by omega)⟩
    · by_cases h3 : -y ≤ x
      · exact ⟨(0, true), by decide, side3 (a := x) (b := -y) (by omega) (by omega)⟩
      · exact ⟨(1, false), by decide, side3 (a := -y) (b := x) (by omega) (by omega)⟩
    · by_cases h3 : -y ≤ -x
      · exact ⟨(2, false), by decide, side3 (a := -x) (b := -y) (by omega) (by omega)⟩
      · exact ⟨(3, true), by decide, side3 (a := -(-(-y))) (b := -x) (by omega) (by omega)⟩
theorem wedge_key {kind t : Int} {f : Bool} {z : Pt} (ht : inB t 0 3 = true) (h : pointB z.1 z.2 = true) : wedgeB kind (actP t f z.1 z.2) = sideI kind (aI t f (keyP z)) := by
  obtain ⟨a, b⟩ := actI_key (t := t) (f := f) (re := z.1) (im := z.2) (point_fin h)
  unfold wedgeB
  rw [actP_point, Bool.true_and, actP_yes ht h, sideB_key b, a]
theorem sideS_key {kind t : Int} {f : Bool} {z : Pt} (h : pointB z.1 z.2 = true) : sideS kind (actS t f z.1 z.2) = sideI kind (aI t f (keyP z)) := by
  obtain ⟨a, b⟩ := actS_key (t := t) (f := f) (re := z.1) (im := z.2) (point_fin h)
  rw [sideS_eq b, sideB_key b, a]
/-- the fold of a point: the first symmetry that takes it into the wedge -/
def firstG (kind : Int) (p : Int × Int) : Option (Int × Bool) := (symsL kind).find? (fun g => sideI kind (aI g.1 g.2 p))
theorem firstG_some {kind : Int} (hk : inB kind 0 3 = true) (p : Int × Int) : ∃ g ∈ symsL kind, firstG kind p = some g ∧ sideI kind (aI g.1 g.2 p) = true := by
  obtain ⟨g, hg, hs⟩ := hitI hk p
  cases h : firstG kind p with
  | none =>
    have := List.find?_eq_none.1 h g hg
    rw [hs] at this; simp at this
  | some g' =>
    exact ⟨g', List.mem_of_find?_eq_some h, rfl, List.find?_some (p := fun g : Int × Bool => sideI kind (aI g.1 g.2 p)) h⟩
theorem find_congr {α : Type} {p q : α → Bool} : ∀ {l : List α}, (∀ x ∈ l, p x = q x) → l.find? p = l.find? q
  | [], _ => rfl
  | x :: l, h => by
    rw [List.find?_cons, List.find?_cons, h x (List.mem_cons_self ..), find_congr (fun y hy => h y (List.mem_cons_of_mem _ hy))]
theorem foldP_g {kind : Int} {z : Pt} {g : Int × Bool} (h : pointB z.1 z.2 = true) (hg : firstG kind (keyP z) = some g) : foldP kind z = (actP g.1 g.2 z.1 z.2, g, true) := by
  unfold foldP foldG
  rw [h, if_pos rfl]
  have : (symsL kind).find? (fun g => wedgeB kind (actP g.1 g.2 z.1 z.2)) = some g := by
    rw [← hg]
    exact find_congr (fun g hg => wedge_key (symsL_in g hg) h)
  rw [this]
theorem foldS_g {kind : Int} {z : Pt} {g : Int × Bool} (h : pointB z.1 z.2 = true) (hg : firstG kind (keyP z) = some g) : foldS kind z = (actS g.1 g.2 z.1 z.2, g, true) := by
  unfold foldS foldH
  rw [h, if_pos rfl]
  have : (symsL kind).find? (fun g => sideS kind (actS g.1 g.2 z.1 z.2)) = some g := by
    rw [← hg]
    exact find_congr (fun g hg => sideS_key h)
  rw [this]
theorem foldP_no {kind : Int} {z : Pt} (h : pointB z.1 z.2 = false) : foldP kind z = ((0, 0), (0, false), false) := by unfold foldP; rw [h]; rfl
theorem foldS_no {kind : Int} {z : Pt} (h : pointB z.1 z.2 = false) : foldS kind z = ((0, 0), (0, false), false) := by unfold foldS; rw [h]; rfl
/-- both versions fold a clean point alike, and know when it is possible -/
theorem fold_eq {kind : Int} {z : Pt} (hk : inB kind 0 3 = true) (hz : cwP z) : foldS kind z = foldP kind z ∧ (foldP kind z).2.2 = pointB z.1 z.2 ∧ inB (foldP kind z).2.1.1 0 3 = true := by
  cases h : pointB z.1 z.2
  · rw [foldS_no h, foldP_no h]; exact ⟨rfl, rfl, by decide⟩
  · obtain ⟨g, hm, hg, _⟩ := firstG_some hk (keyP z)
    rw [foldS_g h hg, foldP_g h hg, actP_yes (symsL_in g hm) h]
    refine ⟨?_, rfl, symsL_in g hm⟩
    rw [actS_actI (show cwP (z.1, z.2) from hz)]
/-- without mirrors nothing is folded -/
theorem foldP_none (z : Pt) : (foldP 0 z).2.1 = (0, false) := by
  cases h : pointB z.1 z.2
  · rw [foldP_no h]
  · have : firstG 0 (keyP z) = some (0, false) := by unfold firstG; rw [syms0]; rfl
    rw [foldP_g h this]
theorem goBd_none {gr : Pt} {loss : Nat} {b : Bd} : (goBd 0 gr loss b).2 = false := by
  unfold goBd
  dsimp only
  rw [if_pos (by rw [foldP_none]; rfl)]
end Go.Proofs.Ytoafldgngbaddaa

/- Sides of points and shards, by keys: plain. -/
namespace Go.Proofs.Ytoafldgngbaddaa
open Go.RowKit

abbrev Sh := Pt × Pt × Pt × Col × Nat
def shC (s : Sh) : List Value := [.complex .f32 s.1.1 s.1.2, .complex .f32 s.2.1.1 s.2.1.2, .complex .f32 s.2.2.1.1 s.2.2.1.2, .float .f32 s.2.2.2.1.1, .float .f32 s.2.2.2.1.2.1, .float .f32 s.2.2.2.1.2.2, .float .f32 s.2.2.2.2]
theorem shC_len (s : Sh) : (shC s).length = 7 := rfl
def okSh (s : Sh) : Bool := pointB s.1.1 s.1.2 && (pointB s.2.1.1 s.2.1.2 && (pointB s.2.2.1.1 s.2.2.1.2 && (colB s.2.2.2.1 && partB s.2.2.2.2)))
theorem okSh_parts {s : Sh} (h : okSh s = true) : pointB s.1.1 s.1.2 = true ∧ pointB s.2.1.1 s.2.1.2 = true ∧ pointB s.2.2.1.1 s.2.2.1.2 = true ∧ colB s.2.2.2.1 = true ∧ partB s.2.2.2.2 = true := by
  unfold okSh at h
  simp only [Bool.and_eq_true] at h
  exact h
def lessP (a b : Pt) : Pt := (subB a.1 b.1, subB a.2 b.2)
/-- the side of p beside the way from a to b -/
def sideN (a b p : Pt) : Nat := subB (mulB (lessP b a).1 (lessP p a).2) (mulB (lessP b a).2 (lessP p a).1)
def liesB (s : Sh) (p : Pt) : Bool :=
  (geB (sideN s.1 s.2.1 p) 0 && (geB (sideN s.2.1 s.2.2.1 p) 0 && geB (sideN s.2.2.1 s.1 p) 0)) || (leB (sideN s.1 s.2.1 p) 0 && (leB (sideN s.2.1 s.2.2.1 p) 0 && leB (sideN s.2.2.1 s.1 p) 0))
/-! ### by keys -/
def lessZ (a b : Int × Int) : Int × Int := (key (addK a.1 (-b.1)), key (addK a.2 (-b.2)))
def sideZ (a b p : Int × Int) : Int := key (addK (key (mulK (lessZ b a).1 (lessZ p a).2)) (-(key (mulK (lessZ b a).2 (lessZ p a).1))))
theorem less_keys {a b : Pt} (ha : finP a) (hb : finP b) : keyP (lessP a b) = lessZ (keyP a) (keyP b) ∧ finP (lessP a b) := by
  refine ⟨?_, (subB_cw ha.1 hb.1).1, (subB_cw ha.2 hb.2).1⟩
  unfold keyP lessP lessZ
  dsimp only
  rw [sub_keys ha.1 hb.1, sub_keys ha.2 hb.2]
theorem side_keys {a b p : Pt} (ha : finP a) (hb : finP b) (hp : finP p) : key (sideN a b p) = sideZ (keyP a) (keyP b) (keyP p) ∧ finB (sideN a b p) = true := by
  obtain ⟨d1, d2⟩ := less_keys hb ha
  obtain ⟨e1, e2⟩ := less_keys hp ha
  have m1 := mulB_cw d2.1 e2.2
  have m2 := mulB_cw d2.2 e2.1
  unfold sideN
  refine ⟨?_, (subB_cw m1.1 m2.1).1⟩
  unfold sideZ
  rw [sub_keys m1.1 m2.1, mul_keys d2.1 e2.2, mul_keys d2.2 e2.1, ← d1, ← e1]
  rfl
theorem lessZ_rI (a b : Int × Int) : lessZ (rI a) (rI b) = rI (lessZ a b) := by
  unfold lessZ rI
  dsimp only
  rw [addK_neg]
theorem sideZ_rI (a b p : Int × Int) : sideZ (rI a) (rI b) (rI p) = sideZ a b p := by
  unfold sideZ
  rw [lessZ_rI, lessZ_rI]
  unfold rI
  dsimp only
  rw [mulK_neg, mulK_neg', Int.neg_neg, addK_comm]
theorem sideZ_rIN (a b p : Int × Int) : ∀ n, sideZ (rIN n a) (rIN n b) (rIN n p) = sideZ a b p
  | 0 => rfl
  | n + 1 => by show sideZ (rI (rIN n a)) (rI (rIN n b)) (rI (rIN n p)) = _; rw [sideZ_rI, sideZ_rIN a b p n]
theorem lessZ_flip (a b : Int × Int) : lessZ (a.1, -a.2) (b.1, -b.2) = ((lessZ a b).1, -(lessZ a b).2) := by
  unfold lessZ
  dsimp only
  rw [addK_neg]
theorem sideZ_flip (a b p : Int × Int) : sideZ (a.1, -a.2) (b.1, -b.2) (p.1, -p.2) = -sideZ a b p := by
  unfold sideZ
  rw [lessZ_flip, lessZ_flip]
  dsimp only
  rw [mulK_neg', mulK_neg, ← addK_neg]
theorem sideZ_aI (t : Int) (f : Bool) (a b p : Int × Int) : sideZ (aI t f a) (aI t f b) (aI t f p) = if f then -sideZ a b p else sideZ a b p := by
  unfold aI
  rw [sideZ_rIN]
  cases f
  · rfl
  · simp only [if_true]; rw [sideZ_flip]
theorem ge_zero {x : Nat} (h : finB x = true) : geB x 0 = decide (0 ≤ key x) := by rw [ge_le h f0, leB_fin f0 h, k0]
theorem le_zero {x : Nat} (h : finB x = true) : leB x 0 = decide (key x ≤ 0) := by rw [leB_fin h f0, k0]
/-- turned glass lies where the turned point lies -/
theorem lies_turn {t : Int} {f : Bool} {s s' : Sh} {p p' : Pt} (h1 : finP s.1) (h2 : finP s.2.1) (h3 : finP s.2.2.1) (hp : finP p)
    (g1 : finP s'.1) (g2 : finP s'.2.1) (g3 : finP s'.2.2.1) (gp : finP p')
    (e1 : keyP s'.1 = aI t f (keyP s.1)) (e2 : keyP s'.2.1 = aI t f (keyP s.2.1)) (e3 : keyP s'.2.2.1 = aI t f (keyP s.2.2.1)) (ep : keyP p' = aI t f (keyP p)) : liesB s' p' = liesB s p := by
  obtain ⟨x1, x2⟩ := side_keys h1 h2 hp
  obtain ⟨y1, y2⟩ := side_keys h2 h3 hp
  obtain ⟨z1, z2⟩ := side_keys h3 h1 hp
  obtain ⟨u1, u2⟩ := side_keys g1 g2 gp
  obtain ⟨v1, v2⟩ := side_keys g2 g3 gp
  obtain ⟨w1, w2⟩ := side_keys g3 g1 gp
  rw [e1, e2, ep, sideZ_aI, ← x1] at u1
  rw [e2, e3, ep, sideZ_aI, ← y1] at v1
  rw [e3, e1, ep, sideZ_aI, ← z1] at w1
  unfold liesB
  rw [ge_zero x2, ge_zero y2, ge_zero z2, ge_zero u2, ge_zero v2, ge_zero w2, le_zero x2, le_zero y2, le_zero z2, le_zero u2, le_zero v2, le_zero w2]
  generalize key (sideN s.1 s.2.1 p) = a at *
  generalize key (sideN s.2.1 s.2.2.1 p) = b at *
  generalize key (sideN s.2.2.1 s.1 p) = c at *
  rw [u1, v1, w1]
  cases f
  · rfl
  · simp only [if_true]
    rw [Bool.eq_iff_iff]
    simp only [Bool.or_eq_true, Bool.and_eq_true, decide_eq_true_eq]
    omega

/-! ### colours -/
def mixN (x y k : Nat) : Nat := if gtB (addB (mulB x (subB 1065353216 k)) (mulB y k)) 1065353216 then 1065353216 else addB (mulB x (subB 1065353216 k)) (mulB y k)
def mixC (a b : Col) (k : Nat) : Col := (mixN a.1 b.1 k, mixN a.2.1 b.2.1 k, mixN a.2.2 b.2.2 k)
def filtC (a b : Col) : Col := (mulB a.1 b.1, mulB a.2.1 b.2.1, mulB a.2.2 b.2.2)
/-- light behind shards -/
def seenL (l : List Sh) (p : Pt) (light : Col) : Col := l.foldl (fun c s => if liesB s p then mixC (filtC c s.2.2.2.1) c s.2.2.2.2 else c) light
theorem colB_parts {c : Col} (h : colB c = true) : partB c.1 = true ∧ partB c.2.1 = true ∧ partB c.2.2 = true := by
  unfold colB at h
  simp only [Bool.and_eq_true] at h
  exact h
theorem seen_turn {t : Int} {f : Bool} {p p' : Pt} (hp : finP p) (gp : finP p') (ep : keyP p' = aI t f (keyP p)) : ∀ (l l' : List Sh), l'.length = l.length →
    (∀ (i : Nat) s s', l[i]? = some s → l'[i]? = some s' → (finP s.1 ∧ finP s.2.1 ∧ finP s.2.2.1) ∧ (finP s'.1 ∧ finP s'.2.1 ∧ finP s'.2.2.1) ∧ keyP s'.1 = aI t f (keyP s.1) ∧ keyP s'.2.1 = aI t f (keyP s.2.1) ∧ keyP s'.2.2.1 = aI t f (keyP s.2.2.1) ∧ s'.2.2.2 = s.2.2.2) →
    ∀ light, seenL l' p' light = seenL l p light
  | [], [], _, _, _ => rfl
  | [], _ :: _, h, _, _ => by simp at h
  | _ :: _, [], h, _, _ => by simp at h
  | s :: l, s' :: l', h, hall, light => by
    obtain ⟨⟨a1, a2, a3⟩, ⟨b1, b2, b3⟩, c1, c2, c3, c4⟩ := hall 0 s s' rfl rfl
    have hl := lies_turn a1 a2 a3 hp b1 b2 b3 gp c1 c2 c3 ep
    unfold seenL
    rw [List.foldl_cons, List.foldl_cons, hl, c4]
    exact seen_turn hp gp ep l l' (by simpa using h) (fun i x x' hx hx' => hall (i + 1) x x' hx hx') _
end Go.Proofs.Ytoafldgngbaddaa

/- The draw of a tumble. -/
namespace Go.Proofs.Ytoafldgngbaddaa
open Go.RowKit
attribute [local go_sem] run_store_float run_store_complex

set_option maxHeartbeats 1000000 in
/-- one of a list of numbers -/
theorem l1IntC (P : Int → Prop) (g b n k : Nat) (A : Option Addr) (m c : Nat) (bs : List Int) (w : World) (hc : CurB w g A m c bs) (hn1 : 1 ≤ n) (hn : n ≤ 256) (hb : b < w.heap.size) (hne : b ≠ g) (hx : ∀ y, y < n → ∃ x, P x ∧ w.cell? ⟨b, y, none⟩ = some (.int .i64 x)) :
    Calls Try.prog 63 #[.pointer (some ⟨g, 0, none⟩), .slice (some ⟨b, 0, none⟩) n k] w fun e w' => ∃ x, P x ∧ e = .returned (.int .i64 x) ∧ CurB w' g A m c bs ∧ w.grownBy w' (some g) := by
  go_enter Try.func63, Try.ntmps63
  go_wp2_with fail
  refine (l1BelowC g A m c bs n _ (by omega) (by omega) hc).mono ?_
  rintro e w1 ⟨y, hy, rfl, hc1, hg1⟩
  obtain ⟨x, px, cx⟩ := hx y (by omega)
  have cx := ((gcell hg1).1 b y hb hne).trans cx
  have PX := Lib.hid px
  have hy0 : (0 : Int) ≤ (y : Int) := by omega
  clear hx px
  go_wp2
  go_ret
  exact ⟨x, PX.out, rfl, hc1, hg1⟩

theorem wedge_zero : okW 0 = true := by decide +kernel
theorem okW_reach {x : Nat} (h : okW x = true) : reachB x = true := by unfold okW at h; rw [Bool.and_eq_true] at h; exact h.1
theorem speed_point {p : Nat × Nat} (h : speedOk p) : pointB p.1 p.2 = true := by
  unfold pointB; rw [okW_reach h.1, okW_reach h.2]; rfl

theorem keepGF_then {w w1 : World} {g b o : Nat} {v : Value} {Goal : Prop} (hg : w.grownBy w1 (some g)) (hne : b ≠ g) (h : w.cell? ⟨b, o, none⟩ = some v) (hf : w.frozen? ⟨b, o, none⟩ = false) (k : w1.cell? ⟨b, o, none⟩ = some v → w1.frozen? ⟨b, o, none⟩ = false → b < w1.heap.size → Goal) : Goal :=
  have hb := World.block_lt_of_cell? _ _ h
  have h1 := ((gcell hg).1 b o hb hne).trans h
  k h1 (((gcell hg).2 b o hb hne).trans hf) (World.block_lt_of_cell? _ _ h1)
theorem drawS1 {wr w' w'' : World} {b g : Nat} {v : Value} {A : Option Addr} {m c : Nat} {bs : List Int} (h : w'.cell? ⟨b, 0, none⟩ = some v ∧ wr.grownBy w' (some g) ∧ CurB w' g A m c bs) (hz : b < wr.heap.size) (hne : b ≠ g) (hc : CurB w'' g A m c bs) (hg : w'.grownBy w'' (some g)) :
    w''.cell? ⟨b, 0, none⟩ = some v ∧ wr.grownBy w'' (some g) ∧ CurB w'' g A m c bs :=
  ⟨((gcell hg).1 b 0 (Nat.lt_of_lt_of_le hz h.2.1.size) hne).trans h.1, grown_trans h.2.1 hg, hc⟩
theorem drawS2 {wr w' w'' : World} {b g : Nat} {v : Value} {A : Option Addr} {m c : Nat} {bs : List Int} (h : w'.cell? ⟨b, 0, none⟩ = some v ∧ wr.grownBy w' (some g) ∧ CurB w' g A m c bs) (_ : b < wr.heap.size) (hb : Below w'.heap.size w' w'') :
    w''.cell? ⟨b, 0, none⟩ = some v ∧ wr.grownBy w'' (some g) ∧ CurB w'' g A m c bs :=
  ⟨keepC h.1 hb, grown_trans h.2.1 (grown_of_below hb _), h.2.2.step hb⟩

theorem drawS5 {wr w' : World} {b g : Nat} {v : Value} {A : Option Addr} {m c : Nat} {bs : List Int} (h : w'.cell? ⟨b, 0, none⟩ = some v ∧ wr.grownBy w' (some g) ∧ CurB w' g A m c bs) (hz : b < wr.heap.size) (o : Obj) :
    (w'.alloc o).cell? ⟨b, 0, none⟩ = some v ∧ wr.grownBy (w'.alloc o) (some g) ∧ CurB (w'.alloc o) g A m c bs := drawS2 h hz (by (repeat (first | with_reducible assumption | exact Below.refl _ _ | (refine Below.setCell ?_ (by first | exact Nat.le_refl _ | (simp; done) | omega | (simp; omega)) _) | (refine below_drewN ?_ _) | (refine Below.drew ?_) | (refine Below.alloc ?_ (by first | exact Nat.le_refl _ | (simp; done) | omega | (simp; omega)) _) | (refine then_ ?_ (by with_reducible assumption)) | assumption | (refine then_ ?_ (by assumption)))))

theorem gSz {w w1 : World} {g : Nat} (h : w.drew.grownBy w1 (some g)) : w.heap.size ≤ w1.heap.size := h.size
theorem drawS6 {wr w' : World} {b g : Nat} {v : Value} {A : Option Addr} {m c : Nat} {bs : List Int} {p : Addr} (h : w'.cell? ⟨b, 0, none⟩ = some v ∧ wr.grownBy w' (some g) ∧ CurB w' g A m c bs) (hz : b < wr.heap.size) (hgr : g < wr.heap.size) (hp : wr.heap.size ≤ p.block) (u : Value) :
    (w'.setCell p u).cell? ⟨b, 0, none⟩ = some v ∧ wr.grownBy (w'.setCell p u) (some g) ∧ CurB (w'.setCell p u) g A m c bs :=
  ⟨(World.cell?_of_block (Below.heap_setCell w' p u b (by omega))).trans h.1, grown_new h.2.1 hp u, curB_set h.2.2 (by omega) u⟩

end Go.Proofs.Ytoafldgngbaddaa

/- Events and shows, plain: what an event does to a show. -/
namespace Go.Proofs.Ytoafldgngbaddaa
open Go.RowKit

/-! ### both versions fold a point alike, whatever its zeros' signs -/
def p32 (p : Pt) : Prop := finP p ∧ p.1 < 4294967296 ∧ p.2 < 4294967296
theorem p32_of_cw {p : Pt} (h : cwP p) : p32 p := ⟨cwP_fin h, cw_lt h.1, cw_lt h.2⟩
theorem rotB_32 {p : Pt} (h : p32 p) : p32 (rotB p) := by
  obtain ⟨⟨h1, h2⟩, h3, h4⟩ := h
  have c := neg_cw h2
  exact ⟨⟨c.1, h1⟩, cw_lt c, h3⟩
theorem rotN_32 {p : Pt} (h : p32 p) : ∀ n, p32 (rotN n p)
  | 0 => h
  | n + 1 => rotB_32 (rotN_32 h n)
theorem flip_32 {f : Bool} {p : Pt} (h : p32 p) : p32 (p.1, flipB f p.2) := by
  cases f
  · exact h
  · have c := neg_cw h.1.2
    exact ⟨⟨h.1.1, c.1⟩, h.2.1, cw_lt c⟩
theorem actI_cw32 {t : Int} {f : Bool} {re im : Nat} (h : p32 (re, im)) : cwP (actI t f re im) := by
  have k := rotN_32 (flip_32 (f := f) h) t.toNat
  exact ⟨cleanB_cw k.1.1 k.2.1, cleanB_cw k.1.2 k.2.2⟩
theorem act_eq32 {t : Int} {f : Bool} {re im : Nat} (h : p32 (re, im)) : actS t f re im = actI t f re im :=
  cwP_ext (actS_cw h.1) (actI_cw32 h) (by rw [(actS_key h.1).1, (actI_key h.1).1])
theorem cwP_zero : cwP (0, 0) := by
  have : cw 0 := ⟨by decide, by decide⟩
  exact ⟨this, this⟩
theorem fold_facts {kind : Int} {z : Pt} (hk : inB kind 0 3 = true) (hz : p32 z) (h : pointB z.1 z.2 = true) :
    foldS kind z = foldP kind z ∧ (foldP kind z).2.2 = true ∧ inB (foldP kind z).2.1.1 0 3 = true ∧ cwP (foldP kind z).1 ∧ wedgeB kind (foldP kind z).1 = true := by
  obtain ⟨g, hm, hg, hs⟩ := firstG_some hk (keyP z)
  have hw := wedge_key (kind := kind) (f := g.2) (symsL_in g hm) h
  rw [foldS_g h hg, foldP_g h hg]
  dsimp only
  rw [hs] at hw
  rw [actP_yes (symsL_in g hm) h] at hw ⊢
  exact ⟨by rw [act_eq32 (show p32 (z.1, z.2) from hz)], rfl, symsL_in g hm, actI_cw32 hz, hw⟩
theorem okW_32 {z : Pt} (h1 : okW z.1 = true) (h2 : okW z.2 = true) : p32 z ∧ pointB z.1 z.2 = true := by
  unfold okW at h1 h2
  simp only [Bool.and_eq_true, decide_eq_true_eq] at h1 h2
  have h : pointB z.1 z.2 = true := by unfold pointB; rw [h1.1, h2.1]; rfl
  exact ⟨⟨point_fin h, h1.2, h2.2⟩, h⟩
theorem actP_cw {t : Int} {f : Bool} {p : Pt} (h : cwP p) : cwP (actP t f p.1 p.2) := by
  unfold actP
  split
  · exact actI_cw32 (p32_of_cw h)
  · exact cwP_zero
theorem foldP_cw {kind : Int} {z : Pt} (hk : inB kind 0 3 = true) (hz : p32 z) : cwP (foldP kind z).1 := by
  cases h : pointB z.1 z.2
  · rw [foldP_no h]; exact cwP_zero
  · exact (fold_facts hk hz h).2.2.2.1

/-! ### events -/
inductive Ev where
  | add (s : Sh) (z : Pt)
  | take (n : Int)
  | light (c : Col)
  | mirrors (n : Int)
  | gravity (z : Pt)
  | push (n : Int) (z : Pt)
  | wait (n : Int)
def sh0 : Sh := ((0, 0), (0, 0), (0, 0), (0, 0, 0), 0)
def Ev.k : Ev → Int | .add .. => 1 | .take .. => 2 | .light .. => 3 | .mirrors .. => 4 | .gravity .. => 5 | .push .. => 6 | .wait .. => 7
def Ev.n : Ev → Int | .take n => n | .mirrors n => n | .push n _ => n | .wait n => n | .add .. => 0 | .light .. => 0 | .gravity .. => 0
def Ev.z : Ev → Pt | .add _ z => z | .gravity z => z | .push _ z => z | .take .. => (0, 0) | .light .. => (0, 0) | .mirrors .. => (0, 0) | .wait .. => (0, 0)
def Ev.s : Ev → Sh | .add s _ => s | .take .. => sh0 | .light .. => sh0 | .mirrors .. => sh0 | .gravity .. => sh0 | .push .. => sh0 | .wait .. => sh0
def Ev.c : Ev → Col | .light c => c | .add .. => (0, 0, 0) | .take .. => (0, 0, 0) | .mirrors .. => (0, 0, 0) | .gravity .. => (0, 0, 0) | .push .. => (0, 0, 0) | .wait .. => (0, 0, 0)
def evC (e : Ev) : List Value := [.int .i64 e.k, .int .i64 e.n, .complex .f32 e.z.1 e.z.2, .complex .f32 e.s.1.1 e.s.1.2, .complex .f32 e.s.2.1.1 e.s.2.1.2, .complex .f32 e.s.2.2.1.1 e.s.2.2.1.2, .float .f32 e.s.2.2.2.1.1, .float .f32 e.s.2.2.2.1.2.1, .float .f32 e.s.2.2.2.1.2.2, .float .f32 e.s.2.2.2.2, .float .f32 e.c.1, .float .f32 e.c.2.1, .float .f32 e.c.2.2]
theorem evC_len (e : Ev) : (evC e).length = 13 := rfl
/-- its numbers are such as are drawn -/
def evG : Ev → Bool
  | .add s z => okSh s && (okW z.1 && okW z.2)
  | .light c => colB c
  | .gravity z => pointB z.1 z.2
  | .push _ z => okW z.1 && okW z.2
  | .take .. => true | .mirrors .. => true | .wait .. => true
/-- its count lies in its bounds -/
def evR : Ev → Bool
  | .take n => inB n 0 7
  | .mirrors n => inB n 0 3
  | .push n _ => inB n 0 7
  | .wait n => inB n 1 32
  | .add .. => true | .light .. => true | .gravity .. => true
def evB (e : Ev) : Bool := evG e && evR e

/-! ### shows -/
structure Shw where
  sz : Int
  st : Nat
  li : Col
  sh : List Sh
  mir : Int
  gr : Pt
  loss : Nat
  bs : List Bd
  tk : Int
  log : List Ev
/-- what holds of every show, and of one that is being changed -/
structure Good (s : Shw) : Prop where
  sz : inB s.sz 1 8 = true
  st : stpB s.st = true
  li : colB s.li = true
  sh : s.sh.all okSh = true
  mir : inB s.mir 0 3 = true
  gr : pointB s.gr.1 s.gr.2 = true
  loss : partB s.loss = true
  len : s.bs.length = s.sh.length
  log : s.log.all evB = true
  wed : ∀ b ∈ s.bs, wedgeB s.mir b.1 = true
  cw : ∀ b ∈ s.bs, cwP b.1 ∧ cwP b.2
def okS (s : Shw) : Bool := decide (s.bs.length ≤ 8) && (s.bs.all (fun b => pointB b.2.1 b.2.2) && (inB s.tk 0 200 && decide (s.log.length ≤ 24)))
theorem good_tum {s : Shw} (h : Good s) : tumB s.mir s.gr s.loss s.bs = (decide (s.bs.length ≤ 8) && s.bs.all (fun b => pointB b.2.1 b.2.2)) := by
  unfold tumB
  rw [h.mir, h.gr, h.loss, Bool.true_and, Bool.true_and, Bool.true_and]
  congr 1
  rw [Bool.eq_iff_iff, List.all_eq_true, List.all_eq_true]
  constructor
  · intro k b hb
    have := k b hb
    unfold okBd at this
    rw [Bool.and_eq_true] at this
    exact this.2
  · intro k b hb
    unfold okBd
    rw [h.wed b hb, k b hb]; rfl
theorem okS_parts {s : Shw} : okS s = true ↔ s.bs.length ≤ 8 ∧ (∀ b ∈ s.bs, pointB b.2.1 b.2.2 = true) ∧ inB s.tk 0 200 = true ∧ s.log.length ≤ 24 := by
  unfold okS
  simp only [Bool.and_eq_true, decide_eq_true_eq, List.all_eq_true]
theorem okS_eq {s : Shw} (h : Good s) : okS s = (tumB s.mir s.gr s.loss s.bs && (inB s.tk 0 200 && decide (s.log.length ≤ 24))) := by
  rw [good_tum h, okS, Bool.and_assoc]
theorem ok_tum {s : Shw} (h : Good s) (k : okS s = true) : tumB s.mir s.gr s.loss s.bs = true := by
  rw [okS_eq h, Bool.and_eq_true] at k
  exact k.1

/-! ### what an event does -/
def mirBd (n : Int) (b : Bd) : Bd := ((foldP n b.1).1, actP (foldP n b.1).2.1.1 (foldP n b.1).2.1.2 b.2.1 b.2.2)
def tickS (s : Shw) : Shw := { s with bs := goL s.mir s.gr s.loss s.bs, tk := s.tk + 1 }
def waitS (s : Shw) : Nat → Option Shw
  | 0 => some s
  | k + 1 => match waitS s k with
    | some t => if allGo t.gr t.bs then some (tickS t) else none
    | none => none
def hap (s : Shw) : Ev → Option Shw
  | .add x z => some { s with sh := s.sh ++ [x], bs := s.bs ++ [((foldP s.mir z).1, (0, 0))] }
  | .take n => if n < s.bs.length then some { s with sh := s.sh.eraseIdx n.toNat, bs := s.bs.eraseIdx n.toNat } else none
  | .light c => some { s with li := c }
  | .mirrors n => some { s with mir := n, bs := s.bs.map (mirBd n) }
  | .gravity z => some { s with gr := z }
  | .push n z => if n < s.bs.length then some { s with bs := s.bs.modify n.toNat (fun b => (b.1, plusP b.2 z)) } else none
  | .wait n => waitS s n.toNat
def logged (t : Shw) (e : Ev) : Shw := { t with log := t.log ++ [e] }
def doE (s : Shw) (e : Ev) : Option Shw :=
  if evR e then match hap s e with
    | some t => if okS (logged t e) then some (logged t e) else none
    | none => none
  else none

theorem waitS_inv {s : Shw} (h : Good s) (ht : tumB s.mir s.gr s.loss s.bs = true) : ∀ {k : Nat} {t : Shw}, waitS s k = some t →
    Good t ∧ tumB t.mir t.gr t.loss t.bs = true ∧ t.sz = s.sz ∧ t.st = s.st ∧ t.li = s.li ∧ t.sh = s.sh ∧ t.mir = s.mir ∧ t.gr = s.gr ∧ t.loss = s.loss ∧ t.bs.length = s.bs.length ∧ t.tk = s.tk + (k : Int) ∧ t.log = s.log
  | 0, t, e => by
    injection e with e
    subst e
    exact ⟨h, ht, rfl, rfl, rfl, rfl, rfl, rfl, rfl, rfl, by simp, rfl⟩
  | k + 1, t, e => by
    unfold waitS at e
    cases hk : waitS s k with
    | none => rw [hk] at e; cases e
    | some u =>
      rw [hk] at e
      dsimp only at e
      obtain ⟨g, m, e1, e2, e3, e4, e5, e6, e7, e8, e9, e10⟩ := waitS_inv h ht hk
      split at e
      · rename_i ha
        injection e with e
        subst e
        have hg := goL_tum m
        have hp := tumB_parts.1 hg
        refine ⟨⟨g.sz, g.st, g.li, g.sh, g.mir, g.gr, g.loss, ?_, g.log, ?_, ?_⟩, hg, e1, e2, e3, e4, e5, e6, e7, ?_, ?_, e10⟩
        · show (goL _ _ _ _).length = _
          simp only [goL, List.length_map]
          exact g.len
        · intro b hb
          have := List.all_eq_true.1 hp.2.2.2.2 b hb
          unfold okBd at this
          rw [Bool.and_eq_true] at this
          exact this.1
        · intro b hb
          unfold tickS goL at hb
          simp only [List.mem_map] at hb
          obtain ⟨a, ha', rfl⟩ := hb
          obtain ⟨c1, c2⟩ := g.cw a ha'
          have v := plus_cw (cwP_fin c2) (point_fin g.gr)
          have z := plus_cw (cwP_fin c1) (cwP_fin v)
          have f1 := foldP_cw g.mir (p32_of_cw z)
          have s1 := actP_cw (t := (foldP u.mir (plusP a.1 (plusP a.2 u.gr))).2.1.1) (f := (foldP u.mir (plusP a.1 (plusP a.2 u.gr))).2.1.2) v
          unfold goBd
          dsimp only
          split
          · exact ⟨f1, s1⟩
          · have fl := part_fin g.loss
            have f2 : finB (subB 1065353216 u.loss) = true := (subB_cw (by decide) fl).1
            exact ⟨f1, mulB_cw s1.1.1 f2, mulB_cw s1.2.1 f2⟩
        · show (goL _ _ _ _).length = _
          simp only [goL, List.length_map]
          exact e8
        · show u.tk + 1 = _
          rw [e9]; push_cast; omega
      · cases e

theorem good_hap {s t : Shw} {e : Ev} (h : Good s) (k : okS s = true) (he : evG e = true) (hr : evR e = true) (hh : hap s e = some t) : Good t := by
  obtain ⟨k1, k2, k3, k4⟩ := okS_parts.1 k
  cases e with
  | add x z =>
    injection hh with hh
    subst hh
    simp only [evG] at he
    simp only [Bool.and_eq_true] at he
    obtain ⟨z1, z2⟩ := okW_32 he.2.1 he.2.2
    obtain ⟨_, _, _, f1, f2⟩ := fold_facts h.mir z1 z2
    refine ⟨h.sz, h.st, h.li, by simp [List.all_append, h.sh, he.1], h.mir, h.gr, h.loss, by simp [h.len], h.log, ?_, ?_⟩
    · intro b hb
      rcases List.mem_append.1 hb with hb | hb
      · exact h.wed b hb
      · simp only [List.mem_singleton] at hb
        subst hb
        exact f2
    · intro b hb
      rcases List.mem_append.1 hb with hb | hb
      · exact h.cw b hb
      · simp only [List.mem_singleton] at hb
        subst hb
        exact ⟨f1, cwP_zero⟩
  | take n =>
    simp only [hap] at hh
    split at hh
    · rename_i hn
      injection hh with hh
      subst hh
      simp only [evR] at hr
      obtain ⟨n0, n7⟩ := inB_true hr
      have e1 : n.toNat < s.bs.length := by omega
      have e2 : n.toNat < s.sh.length := by have := h.len; omega
      refine ⟨h.sz, h.st, h.li, ?_, h.mir, h.gr, h.loss, ?_, h.log, fun b hb => h.wed b (List.mem_of_mem_eraseIdx hb), fun b hb => h.cw b (List.mem_of_mem_eraseIdx hb)⟩
      · rw [List.all_eq_true]
        exact fun x hx => List.all_eq_true.1 h.sh x (List.mem_of_mem_eraseIdx hx)
      · show (s.bs.eraseIdx _).length = (s.sh.eraseIdx _).length
        rw [List.length_eraseIdx_of_lt e1, List.length_eraseIdx_of_lt e2, h.len]
    · cases hh
  | light c =>
    injection hh with hh
    subst hh
    exact ⟨h.sz, h.st, he, h.sh, h.mir, h.gr, h.loss, h.len, h.log, h.wed, h.cw⟩
  | mirrors n =>
    injection hh with hh
    subst hh
    simp only [evR] at hr
    have hb0 : ∀ b ∈ s.bs.map (mirBd n), wedgeB n b.1 = true ∧ cwP b.1 ∧ cwP b.2 := by
      intro b hb
      obtain ⟨a, ha, rfl⟩ := List.mem_map.1 hb
      obtain ⟨c1, c2⟩ := h.cw a ha
      have hp : pointB a.1.1 a.1.2 = true := by
        have := h.wed a ha
        unfold wedgeB at this
        rw [Bool.and_eq_true] at this
        exact this.1
      obtain ⟨_, _, _, f1, f2⟩ := fold_facts hr (p32_of_cw c1) hp
      exact ⟨f2, f1, actP_cw c2⟩
    exact ⟨h.sz, h.st, h.li, h.sh, hr, h.gr, h.loss, by simp [h.len], h.log, fun b hb => (hb0 b hb).1, fun b hb => (hb0 b hb).2⟩
  | gravity z =>
    injection hh with hh
    subst hh
    exact ⟨h.sz, h.st, h.li, h.sh, h.mir, he, h.loss, h.len, h.log, h.wed, h.cw⟩
  | push n z =>
    simp only [hap] at hh
    split at hh
    · injection hh with hh
      subst hh
      simp only [evG] at he
      simp only [Bool.and_eq_true] at he
      obtain ⟨z1, z2⟩ := okW_32 he.1 he.2
      have hb0 : ∀ b ∈ s.bs.modify n.toNat (fun b => (b.1, plusP b.2 z)), wedgeB s.mir b.1 = true ∧ cwP b.1 ∧ cwP b.2 := by
        intro b hb
        obtain ⟨i, hi⟩ := List.getElem?_of_mem hb
        rw [List.getElem?_modify] at hi
        cases ha : s.bs[i]? with
        | none => rw [ha] at hi; cases hi
        | some a =>
          rw [ha] at hi
          have hm := List.mem_of_getElem? ha
          obtain ⟨c1, c2⟩ := h.cw a hm
          by_cases e : n.toNat = i
          · simp only [e, if_pos, Option.map_some, Functor.map] at hi
            injection hi with hi
            subst hi
            exact ⟨h.wed a hm, c1, plus_cw (cwP_fin c2) z1.1⟩
          · simp only [e, if_neg, not_false_eq_true, Option.map_some, Functor.map] at hi
            injection hi with hi
            subst hi
            exact ⟨h.wed a hm, c1, c2⟩
      exact ⟨h.sz, h.st, h.li, h.sh, h.mir, h.gr, h.loss, by simp [h.len], h.log, fun b hb => (hb0 b hb).1, fun b hb => (hb0 b hb).2⟩
    · cases hh
  | wait n => exact (waitS_inv h (ok_tum h k) hh).1
theorem good_logged {t : Shw} {e : Ev} (h : Good t) (he : evB e = true) : Good (logged t e) :=
  ⟨h.sz, h.st, h.li, h.sh, h.mir, h.gr, h.loss, h.len, by simp [logged, List.all_append, h.log, he], h.wed, h.cw⟩
theorem doE_some {s t : Shw} {e : Ev} (h : doE s e = some t) : evR e = true ∧ ∃ u, hap s e = some u ∧ t = logged u e ∧ okS t = true := by
  unfold doE at h
  split at h
  · rename_i hr
    refine ⟨hr, ?_⟩
    cases hh : hap s e with
    | none => rw [hh] at h; cases h
    | some u =>
      rw [hh] at h
      dsimp only at h
      split at h
      · rename_i hk
        injection h with h
        exact ⟨u, rfl, h.symm, by rw [← h]; exact hk⟩
      · cases h
  · cases h
theorem doE_good {s t : Shw} {e : Ev} (hg : Good s) (k : okS s = true) (he : evG e = true) (h : doE s e = some t) : Good t ∧ okS t = true := by
  obtain ⟨hr, u, hu, rfl, hk⟩ := doE_some h
  exact ⟨good_logged (good_hap hg k he hr hu) (by unfold evB; rw [he, hr]; rfl), hk⟩
/-- the bounds of a show that is being changed -/
theorem hap_len {s t : Shw} {e : Ev} (h : Good s) (k : okS s = true) (hr : evR e = true) (hh : hap s e = some t) : t.bs.length ≤ 9 ∧ t.sh.length ≤ 9 ∧ t.log = s.log ∧ 0 ≤ t.tk ∧ t.tk ≤ 232 := by
  obtain ⟨k1, k2, k3, k4⟩ := okS_parts.1 k
  obtain ⟨t0, t1⟩ := inB_true k3
  have hl := h.len
  cases e with
  | add x z => injection hh with hh; subst hh; simp; omega
  | take n =>
    simp only [hap] at hh
    split at hh
    · injection hh with hh
      subst hh
      refine ⟨?_, ?_, rfl, t0, by show s.tk ≤ 232; omega⟩
      · exact Nat.le_trans (List.length_eraseIdx_le ..) (by omega)
      · exact Nat.le_trans (List.length_eraseIdx_le ..) (by omega)
    · cases hh
  | light c => injection hh with hh; subst hh; exact ⟨by dsimp only; omega, by dsimp only; omega, rfl, t0, by dsimp only; omega⟩
  | mirrors n => injection hh with hh; subst hh; simp; omega
  | gravity z => injection hh with hh; subst hh; exact ⟨by dsimp only; omega, by dsimp only; omega, rfl, t0, by dsimp only; omega⟩
  | push n z =>
    simp only [hap] at hh
    split at hh
    · injection hh with hh
      subst hh
      simp; omega
    · cases hh
  | wait n =>
    simp only [evR] at hr
    obtain ⟨n1, n2⟩ := inB_true hr
    obtain ⟨_, _, _, _, _, e4, _, _, _, e8, e9, e10⟩ := waitS_inv h (ok_tum h k) hh
    refine ⟨by omega, by rw [e4]; omega, e10, by omega, by omega⟩
end Go.Proofs.Ytoafldgngbaddaa

/- Events one after the other, plain. -/
namespace Go.Proofs.Ytoafldgngbaddaa

/-- the show behind the first k events; none: one of them was refused -/
def runK (s : Shw) (es : List Ev) : Nat → Option Shw
  | 0 => some s
  | k + 1 => match runK s es k, es[k]? with
    | some t, some e => doE t e
    | _, _ => none
theorem runK_succ {s t : Shw} {es : List Ev} {k : Nat} {e : Ev} (h : runK s es k = some t) (he : es[k]? = some e) : runK s es (k + 1) = doE t e := by
  show (match runK s es k, es[k]? with | some t, some e => doE t e | _, _ => none) = _
  rw [h, he]
theorem runK_good {s : Shw} {es : List Ev} (hg : Good s) (hk : okS s = true) (he : es.all evG = true) : ∀ {k : Nat} {t : Shw}, runK s es k = some t → Good t ∧ okS t = true
  | 0, t, h => by
    injection h with h
    subst h
    exact ⟨hg, hk⟩
  | k + 1, t, h => by
    cases hr : runK s es k with
    | none =>
      have : (match runK s es k, es[k]? with | some t, some e => doE t e | _, _ => none) = some t := h
      rw [hr] at this
      cases this
    | some u =>
      cases hx : es[k]? with
      | none =>
        have : (match runK s es k, es[k]? with | some t, some e => doE t e | _, _ => none) = some t := h
        rw [hr, hx] at this
        cases this
      | some e =>
        obtain ⟨g, o⟩ := runK_good hg hk he hr
        rw [runK_succ hr hx] at h
        exact doE_good g o (List.all_eq_true.1 he e (List.mem_of_getElem? hx)) h
theorem runK_log {s : Shw} {es : List Ev} : ∀ {k : Nat} {t : Shw}, runK s es k = some t → k ≤ es.length ∧ runK s es k = some t
  | 0, t, h => ⟨Nat.zero_le _, h⟩
  | k + 1, t, h => by
    refine ⟨?_, h⟩
    cases hr : runK s es k with
    | none =>
      have : (match runK s es k, es[k]? with | some t, some e => doE t e | _, _ => none) = some t := h
      rw [hr] at this
      cases this
    | some u =>
      cases hx : es[k]? with
      | none =>
        have : (match runK s es k, es[k]? with | some t, some e => doE t e | _, _ => none) = some t := h
        rw [hr, hx] at this
        cases this
      | some e => exact (List.getElem?_eq_some_iff.1 hx).1
end Go.Proofs.Ytoafldgngbaddaa

/- Shows that are drawn: each is what its log tells, from a new show on. No program. -/
namespace Go.Proofs.Ytoafldgngbaddaa

def newS (sz : Int) (st : Nat) : Shw := { sz := sz, st := st, li := (0, 0, 0), sh := [], mir := 0, gr := (0, 0), loss := 0, bs := [], tk := 0, log := [] }
/-- a valid show that its log tells -/
structure Drawn (s : Shw) : Prop where
  good : Good s
  ok : okS s = true
  run : runK (newS s.sz s.st) s.log s.log.length = some s

theorem new_good {sz : Int} {st : Nat} (h1 : inB sz 1 8 = true) (h2 : stpB st = true) : Good (newS sz st) :=
  ⟨h1, h2, (show colB (0, 0, 0) = true by decide +kernel), rfl, rfl, (show pointB 0 0 = true by decide +kernel), (show partB 0 = true by decide +kernel), rfl, rfl, (fun b h => by cases h), (fun b h => by cases h)⟩
theorem new_drawn {sz : Int} {st : Nat} (h1 : inB sz 1 8 = true) (h2 : stpB st = true) : Drawn (newS sz st) :=
  ⟨new_good h1 h2, rfl, rfl⟩

theorem waitS_keeps {s : Shw} : ∀ {k : Nat} {t : Shw}, waitS s k = some t → t.sz = s.sz ∧ t.st = s.st ∧ t.log = s.log
  | 0, t, h => by
    injection h with h
    subst h
    exact ⟨rfl, rfl, rfl⟩
  | k + 1, t, h => by
    unfold waitS at h
    cases hk : waitS s k with
    | none => rw [hk] at h; cases h
    | some u =>
      rw [hk] at h
      dsimp only at h
      split at h
      · injection h with h
        subst h
        obtain ⟨a, b, c⟩ := waitS_keeps hk
        exact ⟨a, b, c⟩
      · cases h
theorem hap_keeps {s t : Shw} {e : Ev} (h : hap s e = some t) : t.sz = s.sz ∧ t.st = s.st ∧ t.log = s.log := by
  cases e with
  | wait n => exact waitS_keeps h
  | take n =>
    simp only [hap] at h
    split at h
    · injection h with h
      subst h
      exact ⟨rfl, rfl, rfl⟩
    · cases h
  | push n z =>
    simp only [hap] at h
    split at h
    · injection h with h
      subst h
      exact ⟨rfl, rfl, rfl⟩
    · cases h
  | add x z => injection h with h; subst h; exact ⟨rfl, rfl, rfl⟩
  | light c => injection h with h; subst h; exact ⟨rfl, rfl, rfl⟩
  | mirrors n => injection h with h; subst h; exact ⟨rfl, rfl, rfl⟩
  | gravity z => injection h with h; subst h; exact ⟨rfl, rfl, rfl⟩
theorem doE_keeps {s t : Shw} {e : Ev} (h : doE s e = some t) : t.sz = s.sz ∧ t.st = s.st ∧ t.log = s.log ++ [e] := by
  obtain ⟨_, u, hu, rfl, _⟩ := doE_some h
  obtain ⟨h1, h2, h3⟩ := hap_keeps hu
  exact ⟨h1, h2, by rw [← h3]; rfl⟩

/-! ### runs cut -/
theorem runK_none {s : Shw} {es : List Ev} {k : Nat} (h : runK s es k = none) : runK s es (k + 1) = none := by
  show (match runK s es k, es[k]? with | some t, some e => doE t e | _, _ => none) = _
  rw [h]
theorem runK_prefix {s u : Shw} {es : List Ev} {n : Nat} (h : runK s es n = some u) : ∀ {k : Nat}, k ≤ n → ∃ t, runK s es k = some t := by
  intro k hk
  cases hr : runK s es k with
  | some t => exact ⟨t, rfl⟩
  | none =>
    exfalso
    have : ∀ j, runK s es (k + j) = none := by
      intro j
      induction j with
      | zero => exact hr
      | succ j ih => exact runK_none ih
    have := this (n - k)
    rw [show k + (n - k) = n by omega, h] at this
    cases this
/-- where the whole goes through, it goes through -/
theorem run_all {s t u : Shw} {es : List Ev} {n k : Nat} (h : runK s es n = some u) (ht : runK s es k = some t) (hk : k ≤ n) (hc : k = n ∨ ∃ e, es[k]? = some e ∧ doE t e = none) : k = n ∧ t = u := by
  rcases hc with e | ⟨e, he, hd⟩
  · subst e
    rw [h] at ht
    injection ht with ht
    exact ⟨rfl, ht.symm⟩
  · by_cases hkn : k = n
    · subst hkn
      rw [h] at ht
      injection ht with ht
      exact ⟨rfl, ht.symm⟩
    · obtain ⟨v, hv⟩ := runK_prefix h (show k + 1 ≤ n by omega)
      rw [runK_succ ht he, hd] at hv
      cases hv
theorem runK_congr {s : Shw} {es fs : List Ev} : ∀ {n : Nat}, (∀ k, k < n → es[k]? = fs[k]?) → runK s es n = runK s fs n
  | 0, _ => rfl
  | n + 1, h => by
    show (match runK s es n, es[n]? with | some t, some e => doE t e | _, _ => none) = (match runK s fs n, fs[n]? with | some t, some e => doE t e | _, _ => none)
    rw [runK_congr (n := n) (fun k hk => h k (by omega)), h n (by omega)]
theorem runK_take {s : Shw} {es : List Ev} {n : Nat} : runK s (es.take n) n = runK s es n :=
  runK_congr fun k hk => by rw [List.getElem?_take_of_lt hk]
theorem runK_drop {s h : Shw} {es : List Ev} {n : Nat} (hr : runK s es n = some h) : ∀ k, runK h (es.drop n) k = runK s es (n + k)
  | 0 => hr.symm
  | k + 1 => by
    show (match runK h (es.drop n) k, (es.drop n)[k]? with | some t, some e => doE t e | _, _ => none) = (match runK s es (n + k), es[n + k]? with | some t, some e => doE t e | _, _ => none)
    rw [runK_drop hr k, List.getElem?_drop]
theorem runK_app {s t : Shw} {es : List Ev} {e : Ev} (h : runK s es es.length = some t) : runK s (es ++ [e]) (es ++ [e]).length = doE t e := by
  rw [List.length_append, List.length_singleton]
  have h1 : runK s (es ++ [e]) es.length = some t := by
    rw [← h]
    exact runK_congr fun k hk => by rw [List.getElem?_append_left hk]
  exact runK_succ h1 (by simp)
theorem drawn_doE {s t : Shw} {e : Ev} (h : Drawn s) (he : evG e = true) (hd : doE s e = some t) : Drawn t := by
  obtain ⟨g, o⟩ := doE_good h.good h.ok he hd
  obtain ⟨h1, h2, h3⟩ := doE_keeps hd
  refine ⟨g, o, ?_⟩
  rw [h1, h2, h3, runK_app h.run, hd]
theorem drawn_doD {s : Shw} {e : Ev} (h : Drawn s) (he : evG e = true) : Drawn ((doE s e).getD s) := by
  cases hd : doE s e with
  | none => exact h
  | some t => exact drawn_doE h he hd
theorem good_evs {s : Shw} (h : Good s) : s.log.all evG = true := by
  rw [List.all_eq_true]
  intro e he
  have := List.all_eq_true.1 h.log e he
  unfold evB at this
  rw [Bool.and_eq_true] at this
  exact this.1
end Go.Proofs.Ytoafldgngbaddaa

/- Clone of shards and of events: the program's. -/
namespace Go.Proofs.Ytoafldgngbaddaa
open Go.RowKit
attribute [local go_sem] run_store_float run_store_complex

theorem infoShd : (Try.prog.info? 43).map (fun i => (i.zero, i.size, i.bytes)) = some (some (.agg #[.complex .f32 0 0, .complex .f32 0 0, .complex .f32 0 0, .float .f32 0, .float .f32 0, .float .f32 0, .float .f32 0]), 7, 40) := by kernel_rfl
theorem infoEv : (Try.prog.info? 45).map (fun i => (i.zero, i.size, i.bytes)) = some (some (.agg #[.int .i64 0, .int .i64 0, .complex .f32 0 0, .complex .f32 0 0, .complex .f32 0 0, .complex .f32 0 0, .float .f32 0, .float .f32 0, .float .f32 0, .float .f32 0, .float .f32 0, .float .f32 0, .float .f32 0]), 13, 80) := by kernel_rfl
theorem shC_one (xs : List Sh) : ∀ u ∈ flat shC xs, u.oneCell' = true := by
  intro u hu
  unfold flat at hu
  obtain ⟨b, _, hb⟩ := List.mem_flatMap.1 hu
  simp [shC] at hb
  rcases hb with rfl | rfl | rfl | rfl | rfl | rfl | rfl <;> rfl

set_option maxRecDepth 100000 in
set_option maxHeartbeats 2000000 in
theorem cloneSh_any (A : Option Addr) (n c : Nat) (bs : List Sh) (w : World) (hn : n ≤ 1000) (ha : Rd shC 7 w w.heap.size A n bs) :
    Calls Try.prog 70 #[.slice A n c] w fun e w' => ∃ B d, e = .returned (.slice B n d) ∧ w'.ownsRow w.heap.size 43 7 (.slice B n d) n (flat shC bs) ∧ Below w.heap.size w w' := by
  obtain ⟨i0, hi, hz0, hz1, hz2⟩ := info_parts infoShd
  cases A with
  | none =>
    have h0 : n = 0 := by
      rcases Nat.eq_zero_or_pos n with h | h
      · exact h
      · obtain ⟨b, off, e, _⟩ := ha.2 h; cases e
    subst h0
    have hb : bs = [] := List.eq_nil_of_length_eq_zero ha.1
    subst hb
    have hq := fun wx => Lib.run_eql_slice_nil (P := Try.prog) wx 26 43 none 0 c 0 0 Try.underlying26
    go_enter Try.func70, Try.ntmps70
    go_wp2
    go_ret
    exact ⟨none, 0, rfl, ⟨rfl, .inl ⟨rfl, rfl⟩⟩, Below.refl _ _⟩
  | some ad =>
    have hq := fun wx => Lib.run_eql_slice_nil (P := Try.prog) wx 26 43 (some ad) n c 0 0 Try.underlying26
    have hB := (show Below w.heap.size w (w.alloc (Obj.cells #[] 43)) by (repeat (first | with_reducible assumption | exact Below.refl _ _ | (refine Below.setCell ?_ (by first | exact Nat.le_refl _ | (simp; done) | omega | (simp; omega)) _) | (refine below_drewN ?_ _) | (refine Below.drew ?_) | (refine Below.alloc ?_ (by first | exact Nat.le_refl _ | (simp; done) | omega | (simp; omega)) _) | (refine then_ ?_ (by with_reducible assumption)) | assumption | (refine then_ ?_ (by assumption)))))
    have o0 := Lib.hid (World.ownsRow_lit (base := w.heap.size) (size := 7) (e := 43) w #[] 0 (Nat.le_refl _) (by simp [maxLen]) rfl)
    have r1 := Lib.hid (ha.step hB)
    have hlen : (flat shC bs).length = n * 7 := by rw [flat_length shC_len, ha.1]
    clear ha
    go_enter Try.func70, Try.ntmps70
    go_wp2_with (at_builtin; refine wpList_append_own_at _ rfl _ _ 26 rfl w.heap.size 43 i0 (.agg #[.complex .f32 0 0, .complex .f32 0 0, .complex .f32 0 0, .float .f32 0, .float .f32 0, .float .f32 0, .float .f32 0]) 7 40 Try.underlying26 hi hz0 hz1 hz2 rfl (by decide) _ _ _ rfl o0.out ad n c (flat shC bs) rfl hlen (Rd.cells shC_len (by omega) r1.out) (shC_one bs) (by unfold maxLen; omega) (by omega) (by simp) ?_; intro v3 w3 hown3 hg3 hne3 hat3; have GB3 := Lib.hid hg3; have OW3 := Lib.hid hown3; clear hown3 hg3 hne3 hat3)
    obtain ⟨B3, d3, rfl⟩ := owns_slice OW3.out
    have own := OW3.out
    rw [Nat.zero_add, List.nil_append] at own
    go_ret
    refine ⟨B3, d3, by show Ending.returned (Value.slice B3 (0 + n) d3) = _; rw [Nat.zero_add], own, hB.grown GB3.out (by simp) (fun k hk => ?_)⟩
    exact (o0.out.lt k hk).1


theorem evC_one (xs : List Ev) : ∀ u ∈ flat evC xs, u.oneCell' = true := by
  intro u hu
  unfold flat at hu
  obtain ⟨b, _, hb⟩ := List.mem_flatMap.1 hu
  simp [evC] at hb
  rcases hb with rfl | rfl | rfl | rfl | rfl | rfl | rfl | rfl | rfl | rfl | rfl | rfl | rfl <;> rfl

set_option maxRecDepth 100000 in
set_option maxHeartbeats 2000000 in
theorem cloneEv_any (A : Option Addr) (n c : Nat) (bs : List Ev) (w : World) (hn : n ≤ 1000) (ha : Rd evC 13 w w.heap.size A n bs) :
    Calls Try.prog 72 #[.slice A n c] w fun e w' => ∃ B d, e = .returned (.slice B n d) ∧ w'.ownsRow w.heap.size 45 13 (.slice B n d) n (flat evC bs) ∧ Below w.heap.size w w' := by
  obtain ⟨i0, hi, hz0, hz1, hz2⟩ := info_parts infoEv
  cases A with
  | none =>
    have h0 : n = 0 := by
      rcases Nat.eq_zero_or_pos n with h | h
      · exact h
      · obtain ⟨b, off, e, _⟩ := ha.2 h; cases e
    subst h0
    have hb : bs = [] := List.eq_nil_of_length_eq_zero ha.1
    subst hb
    have hq := fun wx => Lib.run_eql_slice_nil (P := Try.prog) wx 31 45 none 0 c 0 0 Try.underlying31
    go_enter Try.func72, Try.ntmps72
    go_wp2
    go_ret
    exact ⟨none, 0, rfl, ⟨rfl, .inl ⟨rfl, rfl⟩⟩, Below.refl _ _⟩
  | some ad =>
    have hq := fun wx => Lib.run_eql_slice_nil (P := Try.prog) wx 31 45 (some ad) n c 0 0 Try.underlying31
    have hB := (show Below w.heap.size w (w.alloc (Obj.cells #[] 45)) by (repeat (first | with_reducible assumption | exact Below.refl _ _ | (refine Below.setCell ?_ (by first | exact Nat.le_refl _ | (simp; done) | omega | (simp; omega)) _) | (refine below_drewN ?_ _) | (refine Below.drew ?_) | (refine Below.alloc ?_ (by first | exact Nat.le_refl _ | (simp; done) | omega | (simp; omega)) _) | (refine then_ ?_ (by with_reducible assumption)) | assumption | (refine then_ ?_ (by assumption)))))
    have o0 := Lib.hid (World.ownsRow_lit (base := w.heap.size) (size := 13) (e := 45) w #[] 0 (Nat.le_refl _) (by simp [maxLen]) rfl)
    have r1 := Lib.hid (ha.step hB)
    have hlen : (flat evC bs).length = n * 13 := by rw [flat_length evC_len, ha.1]
    clear ha
    go_enter Try.func72, Try.ntmps72
    go_wp2_with (at_builtin; refine wpList_append_own_at _ rfl _ _ 31 rfl w.heap.size 45 i0 (.agg #[.int .i64 0, .int .i64 0, .complex .f32 0 0, .complex .f32 0 0, .complex .f32 0 0, .complex .f32 0 0, .float .f32 0, .float .f32 0, .float .f32 0, .float .f32 0, .float .f32 0, .float .f32 0, .float .f32 0]) 13 80 Try.underlying31 hi hz0 hz1 hz2 rfl (by decide) _ _ _ rfl o0.out ad n c (flat evC bs) rfl hlen (Rd.cells evC_len (by omega) r1.out) (evC_one bs) (by unfold maxLen; omega) (by omega) (by simp) ?_; intro v3 w3 hown3 hg3 hne3 hat3; have GB3 := Lib.hid hg3; have OW3 := Lib.hid hown3; clear hown3 hg3 hne3 hat3)
    obtain ⟨B3, d3, rfl⟩ := owns_slice OW3.out
    have own := OW3.out
    rw [Nat.zero_add, List.nil_append] at own
    go_ret
    refine ⟨B3, d3, by show Ending.returned (Value.slice B3 (0 + n) d3) = _; rw [Nat.zero_add], own, hB.grown GB3.out (by simp) (fun k hk => ?_)⟩
    exact (o0.out.lt k hk).1

end Go.Proofs.Ytoafldgngbaddaa

/- slices.Delete of one element: the program's. -/
namespace Go.Proofs.Ytoafldgngbaddaa
open Go.RowKit
attribute [local go_sem] run_store_float run_store_complex

theorem zeroBdD (w : World) : (zeroValue 103).run Try.prog w = .ok (Value.agg #[.complex .f32 0 0, .complex .f32 0 0]) w := by kernel_rfl
theorem zeroCellsBd (n : Nat) : ∀ v ∈ (Builtin.zeroCells (Value.agg #[.complex .f32 0 0, .complex .f32 0 0]).cells n).toList, v.oneCell' = true := by
  intro v hv
  unfold Builtin.zeroCells at hv
  rw [Array.toList_map, List.mem_map] at hv
  obtain ⟨i, _, rfl⟩ := hv
  have : i % (Value.agg #[.complex .f32 0 0, .complex .f32 0 0]).cells.size < 2 := Nat.mod_lt _ (by decide)
  generalize i % (Value.agg #[.complex .f32 0 0, .complex .f32 0 0]).cells.size = k at this
  rcases (by omega : k = 0 ∨ k = 1) with rfl | rfl <;> rfl
set_option maxRecDepth 100000 in
set_option maxHeartbeats 4000000 in
theorem deleteBd_any (g n c i : Nat) (bs : List Bd) (base : Nat) (w : World) (hi : i < n) (hn : n ≤ 1000) (hl : bs.length = n) (own : w.ownsRow base 103 2 (.slice (some ⟨g, 0, none⟩) n c) n (flat bdC bs)) :
    Calls Try.prog 75 #[.slice (some ⟨g, 0, none⟩) n c, .int .i64 (i : Int), .int .i64 ((i : Int) + 1)] w fun e w' => e = .returned (.slice (some ⟨g, 0, none⟩) (n - 1) c) ∧ w'.ownsRow base 103 2 (.slice (some ⟨g, 0, none⟩) (n - 1) c) (n - 1) (flat bdC (bs.eraseIdx i)) ∧ w.grownBy w' (some g) := by
  obtain ⟨i0, hi0, hz0, hz1, hz2⟩ := info_parts infoBd
  obtain ⟨ga, ea, hnc, hcm⟩ := owns_slice_at own (by omega)
  injection ea with ea
  injection ea with ea
  subst ea
  unfold maxLen at hcm
  have rd := Rd.of_own bdC_len hl own
  have hN := del_news bdC_len (i := i) (by omega) rd
  obtain ⟨mv, hmv⟩ : ∃ mv, mv = flat bdC (bs.drop (i + 1)) := ⟨_, rfl⟩
  rw [← hmv] at hN
  have hml : mv.length = (n - (i + 1)) * 2 := by rw [hmv, flat_length bdC_len, List.length_drop, hl]
  have s1 := Lib.hid hml
  have s2 : Hid (∀ u ∈ mv, u.oneCell' = true) := Lib.hid (by rw [hmv]; exact bdC_one _)
  have s3 : Hid (∀ j, j < mv.length → (w.drew.cell? ⟨g, 0 + i * 2 + j, none⟩).isSome = true ∧ w.drew.frozen? ⟨g, 0 + i * 2 + j, none⟩ = false) := Lib.hid (by
    intro j hj
    rw [hml] at hj
    obtain ⟨v, hv⟩ := owns_cell own (i * 2 + j) (by omega)
    rw [Nat.zero_add]
    exact ⟨by show (w.cell? _).isSome = true; rw [hv]; rfl, own.frozenAt _⟩)
  have D := Lib.hid (del_own (w := w.drew) bdC_len (own_drewN own 1) hl hi)
  rw [← hmv] at D
  have ON := Lib.hid (own_setL mv (i * 2) w.drew _ (own_drewN own 1))
  have hnews : Hid (∀ A : Addr, (A = ⟨g, (i + 1) * 2, none⟩ ∨ c = i + 1) → ∀ j u, mv[j]? = some u → w.drew.cell? (A.add j) = some u) := Lib.hid (by
    intro A hA j u hu
    rcases hA with rfl | hA
    · rw [Addr.add_lit]; exact hN j u hu
    · have := (List.getElem?_eq_some_iff.1 hu).1
      rw [hml] at this
      have : (n - (i + 1)) = 0 := by omega
      rw [this] at *
      omega)
  obtain ⟨A, hA, hAn⟩ : ∃ A : Addr, (if c = i + 1 then some (⟨g, 0, none⟩ : Addr) else some ⟨g, (i + 1) * 2, none⟩) = some A ∧ (A = ⟨g, (i + 1) * 2, none⟩ ∨ c = i + 1) := by
    by_cases h : c = i + 1
    · exact ⟨_, by rw [if_pos h], .inr h⟩
    · exact ⟨_, by rw [if_neg h], .inl rfl⟩
  have OW := Lib.hid own
  have hci : ¬ c = n - 1 := by omega
  have hic : i ≤ c := by omega
  have hii : (i : Int) ≤ (i : Int) + 1 := by omega
  have hne : ((i : Int) == (i : Int) + 1) = false := by rw [beq_eq_false_iff_ne]; omega
  have hp0 : (0 : Int) ≤ (i : Int) + 1 := by omega
  have hp1 : (i : Int) + 1 ≤ (n : Int) := by omega
  have hp2 : ((i : Int) + 1).toNat = i + 1 := by omega
  have hp3 : i + (n - (i + 1)) = n - 1 := by omega
  have hin : (i : Int) ≤ (n : Int) := by omega
  clear hmv hml hN rd own
  go_enter Try.func75, Try.ntmps75
  go_wp2_with fail
  go_region_law (refine step_append_room rfl (.tmp 22) (.tmp 25) 28 rfl 103 i0 2 Try.underlying28 hi0 hz1 g 0 i c (by simp [Act.eval, Act.put]) A (n - (i + 1)) (c - (i + 1)) mv (by simp [Act.eval, Act.put]) s1.out (hnews.out A hAn) s2.out (by omega) s3.out ?_)
  obtain ⟨U, hU⟩ : ∃ U, U = w.drew.setCells g (i * 2) mv := ⟨_, rfl⟩
  have ou : U.ownsRow base 103 2 (.slice (some ⟨g, 0, none⟩) (n - 1) c) (n - 1) (flat bdC (bs.eraseIdx i)) := by rw [hU]; exact D.out
  have on := ON.out
  rw [← hU] at on ⊢
  have gu : w.grownBy U (some g) := by rw [hU]; exact grown_setCells _ _ _ (grown_drewN (World.grownBy.refl _ _) 1)
  have bg : base ≤ g := (ou.lt g rfl).1
  clear hU D ON s3
  have hcl := fun ty => run_clear_row (P := Try.prog) U 28 103 ty (Value.agg #[.complex .f32 0 0, .complex .f32 0 0]) Try.underlying28 zeroBdD g ((n - 1) * 2) 1 (c - (n - 1)) (by omega) (zeroCellsBd _)
    (fun k hk => by
      have hk : k < 1 * 2 := hk
      obtain ⟨v, hv⟩ := owns_cell on ((n - 1) * 2 + k) (by omega)
      rw [hv]; rfl) (fun k _ => on.frozenAt _)
  have hn1 : ((n - 1 : Nat) : Int) ≤ (n : Int) := by omega
  have hn2 : n - (n - 1) = 1 := by omega
  have hn3 : (n : Int) ≤ (c : Int) := by omega
  clear on
  go_wp2
  go_ret
  exact ⟨rfl, own_beyonds _ _ _ ou (Nat.le_refl _), grown_setCells _ _ _ gu⟩

theorem zeroShD (w : World) : (zeroValue 43).run Try.prog w = .ok (Value.agg #[.complex .f32 0 0, .complex .f32 0 0, .complex .f32 0 0, .float .f32 0, .float .f32 0, .float .f32 0, .float .f32 0]) w := by kernel_rfl
theorem zeroCellsSh (n : Nat) : ∀ v ∈ (Builtin.zeroCells (Value.agg #[.complex .f32 0 0, .complex .f32 0 0, .complex .f32 0 0, .float .f32 0, .float .f32 0, .float .f32 0, .float .f32 0]).cells n).toList, v.oneCell' = true := by
  intro v hv
  unfold Builtin.zeroCells at hv
  rw [Array.toList_map, List.mem_map] at hv
  obtain ⟨i, _, rfl⟩ := hv
  have : i % (Value.agg #[.complex .f32 0 0, .complex .f32 0 0, .complex .f32 0 0, .float .f32 0, .float .f32 0, .float .f32 0, .float .f32 0]).cells.size < 7 := Nat.mod_lt _ (by decide)
  generalize i % (Value.agg #[.complex .f32 0 0, .complex .f32 0 0, .complex .f32 0 0, .float .f32 0, .float .f32 0, .float .f32 0, .float .f32 0]).cells.size = k at this
  rcases (by omega : k = 0 ∨ k = 1 ∨ k = 2 ∨ k = 3 ∨ k = 4 ∨ k = 5 ∨ k = 6) with rfl | rfl | rfl | rfl | rfl | rfl | rfl <;> rfl
set_option maxRecDepth 100000 in
set_option maxHeartbeats 4000000 in
theorem deleteSh_any (g n c i : Nat) (bs : List Sh) (base : Nat) (w : World) (hi : i < n) (hn : n ≤ 1000) (hl : bs.length = n) (own : w.ownsRow base 43 7 (.slice (some ⟨g, 0, none⟩) n c) n (flat shC bs)) :
    Calls Try.prog 74 #[.slice (some ⟨g, 0, none⟩) n c, .int .i64 (i : Int), .int .i64 ((i : Int) + 1)] w fun e w' => e = .returned (.slice (some ⟨g, 0, none⟩) (n - 1) c) ∧ w'.ownsRow base 43 7 (.slice (some ⟨g, 0, none⟩) (n - 1) c) (n - 1) (flat shC (bs.eraseIdx i)) ∧ w.grownBy w' (some g) := by
  obtain ⟨i0, hi0, hz0, hz1, hz2⟩ := info_parts infoShd
  obtain ⟨ga, ea, hnc, hcm⟩ := owns_slice_at own (by omega)
  injection ea with ea
  injection ea with ea
  subst ea
  unfold maxLen at hcm
  have rd := Rd.of_own shC_len hl own
  have hN := del_news shC_len (i := i) (by omega) rd
  obtain ⟨mv, hmv⟩ : ∃ mv, mv = flat shC (bs.drop (i + 1)) := ⟨_, rfl⟩
  rw [← hmv] at hN
  have hml : mv.length = (n - (i + 1)) * 7 := by rw [hmv, flat_length shC_len, List.length_drop, hl]
  have s1 := Lib.hid hml
  have s2 : Hid (∀ u ∈ mv, u.oneCell' = true) := Lib.hid (by rw [hmv]; exact shC_one _)
  have s3 : Hid (∀ j, j < mv.length → (w.drew.cell? ⟨g, 0 + i * 7 + j, none⟩).isSome = true ∧ w.drew.frozen? ⟨g, 0 + i * 7 + j, none⟩ = false) := Lib.hid (by
    intro j hj
    rw [hml] at hj
    obtain ⟨v, hv⟩ := owns_cell own (i * 7 + j) (by omega)
    rw [Nat.zero_add]
    exact ⟨by show (w.cell? _).isSome = true; rw [hv]; rfl, own.frozenAt _⟩)
  have D := Lib.hid (del_own (w := w.drew) shC_len (own_drewN own 1) hl hi)
  rw [← hmv] at D
  have ON := Lib.hid (own_setL mv (i * 7) w.drew _ (own_drewN own 1))
  have hnews : Hid (∀ A : Addr, (A = ⟨g, (i + 1) * 7, none⟩ ∨ c = i + 1) → ∀ j u, mv[j]? = some u → w.drew.cell? (A.add j) = some u) := Lib.hid (by
    intro A hA j u hu
    rcases hA with rfl | hA
    · rw [Addr.add_lit]; exact hN j u hu
    · have := (List.getElem?_eq_some_iff.1 hu).1
      rw [hml] at this
      have : (n - (i + 1)) = 0 := by omega
      rw [this] at *
      omega)
  obtain ⟨A, hA, hAn⟩ : ∃ A : Addr, (if c = i + 1 then some (⟨g, 0, none⟩ : Addr) else some ⟨g, (i + 1) * 7, none⟩) = some A ∧ (A = ⟨g, (i + 1) * 7, none⟩ ∨ c = i + 1) := by
    by_cases h : c = i + 1
    · exact ⟨_, by rw [if_pos h], .inr h⟩
    · exact ⟨_, by rw [if_neg h], .inl rfl⟩
  have OW := Lib.hid own
  have hci : ¬ c = n - 1 := by omega
  have hic : i ≤ c := by omega
  have hii : (i : Int) ≤ (i : Int) + 1 := by omega
  have hne : ((i : Int) == (i : Int) + 1) = false := by rw [beq_eq_false_iff_ne]; omega
  have hp0 : (0 : Int) ≤ (i : Int) + 1 := by omega
  have hp1 : (i : Int) + 1 ≤ (n : Int) := by omega
  have hp2 : ((i : Int) + 1).toNat = i + 1 := by omega
  have hp3 : i + (n - (i + 1)) = n - 1 := by omega
  have hin : (i : Int) ≤ (n : Int) := by omega
  clear hmv hml hN rd own
  go_enter Try.func74, Try.ntmps74
  go_wp2_with fail
  go_region_law (refine step_append_room rfl (.tmp 22) (.tmp 25) 26 rfl 43 i0 7 Try.underlying26 hi0 hz1 g 0 i c (by simp [Act.eval, Act.put]) A (n - (i + 1)) (c - (i + 1)) mv (by simp [Act.eval, Act.put]) s1.out (hnews.out A hAn) s2.out (by omega) s3.out ?_)
  obtain ⟨U, hU⟩ : ∃ U, U = w.drew.setCells g (i * 7) mv := ⟨_, rfl⟩
  have ou : U.ownsRow base 43 7 (.slice (some ⟨g, 0, none⟩) (n - 1) c) (n - 1) (flat shC (bs.eraseIdx i)) := by rw [hU]; exact D.out
  have on := ON.out
  rw [← hU] at on ⊢
  have gu : w.grownBy U (some g) := by rw [hU]; exact grown_setCells _ _ _ (grown_drewN (World.grownBy.refl _ _) 1)
  have bg : base ≤ g := (ou.lt g rfl).1
  clear hU D ON s3
  have hcl := fun ty => run_clear_row (P := Try.prog) U 26 43 ty (Value.agg #[.complex .f32 0 0, .complex .f32 0 0, .complex .f32 0 0, .float .f32 0, .float .f32 0, .float .f32 0, .float .f32 0]) Try.underlying26 zeroShD g ((n - 1) * 7) 1 (c - (n - 1)) (by omega) (zeroCellsSh _)
    (fun k hk => by
      have hk : k < 1 * 7 := hk
      obtain ⟨v, hv⟩ := owns_cell on ((n - 1) * 7 + k) (by omega)
      rw [hv]; rfl) (fun k _ => on.frozenAt _)
  have hn1 : ((n - 1 : Nat) : Int) ≤ (n : Int) := by omega
  have hn2 : n - (n - 1) = 1 := by omega
  have hn3 : (n : Int) ≤ (c : Int) := by omega
  clear on
  go_wp2
  go_ret
  exact ⟨rfl, own_beyonds _ _ _ ou (Nat.le_refl _), grown_setCells _ _ _ gu⟩

end Go.Proofs.Ytoafldgngbaddaa

/- cloneShow: the program's. -/
namespace Go.Proofs.Ytoafldgngbaddaa
open Go.RowKit
attribute [local go_sem] run_store_float run_store_complex

def Apart (v v' : Value) : Prop := ∀ g, v.ownBlock = some g → v'.ownBlock ≠ some g
theorem apart_base {w w' : World} {b b' : Nat} {E E' : TypeId} {z z' : Nat} {v v' : Value} {n n' : Nat} {xs xs' : List Value} (h : w.ownsRow b E z v n xs) (h' : w'.ownsRow b' E' z' v' n' xs') (hb : w.heap.size ≤ b') : Apart v v' := fun g hg hg' => by
  have := (h.lt g hg).2
  have := (h'.lt g hg').1
  omega
/-- a show whose three slices are the call's own, each apart from the others -/
def OwnS (w : World) (base : Nat) (s : Shw) (A B L : Option Addr) (c d q : Nat) : Prop :=
  w.ownsRow base 43 7 (.slice A s.sh.length c) s.sh.length (flat shC s.sh) ∧ w.ownsRow base 103 2 (.slice B s.bs.length d) s.bs.length (flat bdC s.bs) ∧ w.ownsRow base 45 13 (.slice L s.log.length q) s.log.length (flat evC s.log) ∧
  Apart (.slice A s.sh.length c) (.slice B s.bs.length d) ∧ Apart (.slice A s.sh.length c) (.slice L s.log.length q) ∧ Apart (.slice B s.bs.length d) (.slice L s.log.length q)
/-- a show that can be read -/
def RdS (w : World) (s : Shw) (A B L : Option Addr) : Prop := Rd shC 7 w w.heap.size A s.sh.length s.sh ∧ Rd bdC 2 w w.heap.size B s.bs.length s.bs ∧ Rd evC 13 w w.heap.size L s.log.length s.log
theorem RdS.step {w w' : World} {s : Shw} {A B L : Option Addr} (h : RdS w s A B L) (hb : Below w.heap.size w w') : RdS w' s A B L := ⟨h.1.step hb, h.2.1.step hb, h.2.2.step hb⟩
theorem OwnS.rd {w : World} {base : Nat} {s : Shw} {A B L : Option Addr} {c d q : Nat} (h : OwnS w base s A B L c d q) : RdS w s A B L := ⟨Rd.of_own shC_len rfl h.1, Rd.of_own bdC_len rfl h.2.1, Rd.of_own evC_len rfl h.2.2.1⟩
theorem OwnS.below {w w' : World} {base : Nat} {s : Shw} {A B L : Option Addr} {c d q : Nat} (h : OwnS w base s A B L c d q) (hb : Below w.heap.size w w') : OwnS w' base s A B L c d q := ⟨owns_below h.1 hb, owns_below h.2.1 hb, owns_below h.2.2.1 hb, h.2.2.2⟩
theorem OwnS.mono {w : World} {base base' : Nat} {s : Shw} {A B L : Option Addr} {c d q : Nat} (h : OwnS w base s A B L c d q) (hb : base' ≤ base) : OwnS w base' s A B L c d q := ⟨owns_mono h.1 hb, owns_mono h.2.1 hb, owns_mono h.2.2.1 hb, h.2.2.2⟩
theorem OwnS.set {w : World} {base : Nat} {s : Shw} {A B L : Option Addr} {c d q : Nat} (h : OwnS w base s A B L c d q) (p : Addr) (hp : p.block < base) (u : Value) : OwnS (w.setCell p u) base s A B L c d q := ⟨ownsRow_setCell_below h.1 hp u, ownsRow_setCell_below h.2.1 hp u, ownsRow_setCell_below h.2.2.1 hp u, h.2.2.2⟩

set_option maxRecDepth 100000 in
set_option maxHeartbeats 4000000 in
theorem cloneShow_any (s : Shw) (A B L : Option Addr) (c d q : Nat) (w : World) (hn : s.sh.length ≤ 1000) (hm : s.bs.length ≤ 8) (hp : s.log.length ≤ 1000) (hr : RdS w s A B L) :
    Calls Try.prog 35 #[.agg #[.int .i64 s.sz, .float .f32 s.st, .float .f32 s.li.1, .float .f32 s.li.2.1, .float .f32 s.li.2.2, .slice A s.sh.length c, .int .i64 s.mir, .complex .f32 s.gr.1 s.gr.2, .float .f32 s.loss, .slice B s.bs.length d, .int .i64 s.tk, .slice L s.log.length q]] w fun e w' => (∃ A B L c d q, e = .returned (.agg #[.int .i64 s.sz, .float .f32 s.st, .float .f32 s.li.1, .float .f32 s.li.2.1, .float .f32 s.li.2.2, .slice A s.sh.length c, .int .i64 s.mir, .complex .f32 s.gr.1 s.gr.2, .float .f32 s.loss, .slice B s.bs.length d, .int .i64 s.tk, .slice L s.log.length q]) ∧ OwnS w' w.heap.size s A B L c d q) ∧ Below w.heap.size w w' := by
  obtain ⟨n, hnn⟩ : ∃ n, n = s.sh.length := ⟨_, rfl⟩
  obtain ⟨m, hmm⟩ : ∃ m, m = s.bs.length := ⟨_, rfl⟩
  obtain ⟨p, hpp⟩ : ∃ p, p = s.log.length := ⟨_, rfl⟩
  have HR := Lib.hid hr
  have KS := Lib.hid (fun w h => cloneSh_any A n c s.sh w (by omega) h)
  have KB := Lib.hid (fun w h => cloneTumble_any s.mir s.gr s.loss B m d s.bs w (by omega) h)
  have KE := Lib.hid (fun w h => cloneEv_any L p q s.log w (by omega) h)
  unfold RdS at hr
  unfold OwnS
  rw [← hnn, ← hmm, ← hpp] at hr ⊢
  obtain ⟨rS, rB, rL⟩ := hr
  clear hnn hmm hpp HR hn hm hp
  go_enter Try.func35, Try.ntmps35
  go_wp2_with fail
  have hW := Below.refl w.heap.size w
  have ca := CA.new w #[.int .i64 s.sz, .float .f32 s.st, .float .f32 s.li.1, .float .f32 s.li.2.1, .float .f32 s.li.2.2, .slice A n c, .int .i64 s.mir, .complex .f32 s.gr.1 s.gr.2, .float .f32 s.loss, .slice B m d, .int .i64 s.tk, .slice L p q] 33; have fa := FA.new w #[.int .i64 s.sz, .float .f32 s.st, .float .f32 s.li.1, .float .f32 s.li.2.1, .float .f32 s.li.2.2, .slice A n c, .int .i64 s.mir, .complex .f32 s.gr.1 s.gr.2, .float .f32 s.loss, .slice B m d, .int .i64 s.tk, .slice L p q] 33; replace hW := hW.alloc (hW.size) (Obj.cells #[.int .i64 s.sz, .float .f32 s.st, .float .f32 s.li.1, .float .f32 s.li.2.1, .float .f32 s.li.2.2, .slice A n c, .int .i64 s.mir, .complex .f32 s.gr.1 s.gr.2, .float .f32 s.loss, .slice B m d, .int .i64 s.tk, .slice L p q] 33); obtain ⟨V, hVe⟩ : ∃ V, V = w.alloc (Obj.cells #[.int .i64 s.sz, .float .f32 s.st, .float .f32 s.li.1, .float .f32 s.li.2.1, .float .f32 s.li.2.2, .slice A n c, .int .i64 s.mir, .complex .f32 s.gr.1 s.gr.2, .float .f32 s.loss, .slice B m d, .int .i64 s.tk, .slice L p q] 33) := ⟨_, rfl⟩; have zV : V.heap.size = w.heap.size + 1 := (by rw [hVe]; simp); rw [← hVe] at ca fa hW; rw [← hVe]; clear hVe; have la := ca.lt
  have cb := CA.new V #[.int .i64 0, .float .f32 0, .float .f32 0, .float .f32 0, .float .f32 0, .slice none 0 0, .int .i64 0, .complex .f32 0 0, .float .f32 0, .slice none 0 0, .int .i64 0, .slice none 0 0] 33; have fb := FA.new V #[.int .i64 0, .float .f32 0, .float .f32 0, .float .f32 0, .float .f32 0, .slice none 0 0, .int .i64 0, .complex .f32 0 0, .float .f32 0, .slice none 0 0, .int .i64 0, .slice none 0 0] 33; replace ca := ca.alloc (Obj.cells #[.int .i64 0, .float .f32 0, .float .f32 0, .float .f32 0, .float .f32 0, .slice none 0 0, .int .i64 0, .complex .f32 0 0, .float .f32 0, .slice none 0 0, .int .i64 0, .slice none 0 0] 33); replace fa := fa.alloc la (Obj.cells #[.int .i64 0, .float .f32 0, .float .f32 0, .float .f32 0, .float .f32 0, .slice none 0 0, .int .i64 0, .complex .f32 0 0, .float .f32 0, .slice none 0 0, .int .i64 0, .slice none 0 0] 33); replace hW := hW.alloc (hW.size) (Obj.cells #[.int .i64 0, .float .f32 0, .float .f32 0, .float .f32 0, .float .f32 0, .slice none 0 0, .int .i64 0, .complex .f32 0 0, .float .f32 0, .slice none 0 0, .int .i64 0, .slice none 0 0] 33); obtain ⟨W, hWe⟩ : ∃ W, W = V.alloc (Obj.cells #[.int .i64 0, .float .f32 0, .float .f32 0, .float .f32 0, .float .f32 0, .slice none 0 0, .int .i64 0, .complex .f32 0 0, .float .f32 0, .slice none 0 0, .int .i64 0, .slice none 0 0] 33) := ⟨_, rfl⟩; have zW : W.heap.size = V.heap.size + 1 := (by rw [hWe]; simp); rw [← hWe] at cb fb ca fa hW; rw [← hWe]; clear hWe; have lb := cb.lt; replace la := ca.lt
  rw [zV] at cb fb lb zW
  clear zV
  have lW0 : w.heap.size < W.heap.size := by omega
  have lW1 : w.heap.size + 1 < W.heap.size := by omega
  have l1 : w.heap.size ≤ w.heap.size + 1 := by omega
  have l0 : w.heap.size ≤ w.heap.size := Nat.le_refl _
  have n01 : ¬ w.heap.size + 1 = w.heap.size := by omega
  have n10 : ¬ w.heap.size = w.heap.size + 1 := by omega
  (with_reducible refine (KS.out _ (rS.step hW)).mono ?_)
  rintro e w1 ⟨A1, c1, rfl, oS, hb⟩
  have z1 := hb.size
  replace ca := ca.keep hb; replace fa := fa.keep hb la; replace la := ca.lt; replace cb := cb.keep hb; replace fb := fb.keep hb lb; replace lb := cb.lt; replace hW := then_ hW hb
  clear hb rS KS
  have a5 := ca 5 _ rfl
  have f5 := fa 5
  go_upto_region 2 with fail
  clear a5 f5
  replace ca := (ca.put 5 (.slice A1 n c1)); replace fa := (fa.set ⟨w.heap.size, 5, none⟩ (.slice A1 n c1)); replace cb := (cb.other ⟨w.heap.size, 5, none⟩ (.slice A1 n c1) n01); replace fb := (fb.set ⟨w.heap.size, 5, none⟩ (.slice A1 n c1)); replace oS := (own_setp oS lW0 5 (.slice A1 n c1)); replace hW := (hW.setCell (p := ⟨w.heap.size, 5, none⟩) l0 (.slice A1 n c1)); obtain ⟨U1, hU1e⟩ : ∃ U1, U1 = (w1.setCell ⟨w.heap.size, 5, none⟩ (.slice A1 n c1)) := ⟨_, rfl⟩; have zU1 : U1.heap.size = w1.heap.size := (by rw [hU1e]; simp); rw [← hU1e] at ca fa cb fb oS hW; rw [← hU1e]; clear hU1e; replace la := ca.lt; replace lb := cb.lt
  have a6 := ca 6 _ rfl; have a7 := ca 7 _ rfl; have a8 := ca 8 _ rfl; have a9 := ca 9 _ rfl
  go_wp2_with fail
  (with_reducible refine (KB.out _ (rB.step hW)).mono ?_)
  rintro e w2 ⟨B1, d1, rfl, oB, hb⟩
  clear a6 a7 a8 a9
  have apSB := apart_base oS oB (Nat.le_refl _)
  replace oB := owns_mono oB (show W.heap.size ≤ U1.heap.size by omega)
  have z2 := hb.size
  replace ca := ca.keep hb; replace fa := fa.keep hb la; replace la := ca.lt; replace cb := cb.keep hb; replace fb := fb.keep hb lb; replace lb := cb.lt; replace oS := owns_below oS hb; replace hW := then_ hW hb
  clear hb rB KB
  have a6 := ca 6 _ rfl; have a7 := ca 7 _ rfl; have a8 := ca 8 _ rfl; have a9 := ca 9 _ rfl
  have f6 := fa 6; have f7 := fa 7; have f8 := fa 8; have f9 := fa 9
  go_upto_region 3 with fail
  clear a6 a7 a8 a9 f6 f7 f8 f9
  replace ca := ((((ca.put 6 (.int .i64 s.mir)).put 7 (.complex .f32 s.gr.1 s.gr.2)).put 8 (.float .f32 s.loss)).put 9 (.slice B1 m d1)); replace fa := ((((fa.set ⟨w.heap.size, 6, none⟩ (.int .i64 s.mir)).set ⟨w.heap.size, 7, none⟩ (.complex .f32 s.gr.1 s.gr.2)).set ⟨w.heap.size, 8, none⟩ (.float .f32 s.loss)).set ⟨w.heap.size, 9, none⟩ (.slice B1 m d1)); replace cb := ((((cb.other ⟨w.heap.size, 6, none⟩ (.int .i64 s.mir) n01).other ⟨w.heap.size, 7, none⟩ (.complex .f32 s.gr.1 s.gr.2) n01).other ⟨w.heap.size, 8, none⟩ (.float .f32 s.loss) n01).other ⟨w.heap.size, 9, none⟩ (.slice B1 m d1) n01); replace fb := ((((fb.set ⟨w.heap.size, 6, none⟩ (.int .i64 s.mir)).set ⟨w.heap.size, 7, none⟩ (.complex .f32 s.gr.1 s.gr.2)).set ⟨w.heap.size, 8, none⟩ (.float .f32 s.loss)).set ⟨w.heap.size, 9, none⟩ (.slice B1 m d1)); replace oS := (own_setp (own_setp (own_setp (own_setp oS lW0 6 (.int .i64 s.mir)) lW0 7 (.complex .f32 s.gr.1 s.gr.2)) lW0 8 (.float .f32 s.loss)) lW0 9 (.slice B1 m d1)); replace oB := (own_setp (own_setp (own_setp (own_setp oB lW0 6 (.int .i64 s.mir)) lW0 7 (.complex .f32 s.gr.1 s.gr.2)) lW0 8 (.float .f32 s.loss)) lW0 9 (.slice B1 m d1)); replace hW := ((((hW.setCell (p := ⟨w.heap.size, 6, none⟩) l0 (.int .i64 s.mir)).setCell (p := ⟨w.heap.size, 7, none⟩) l0 (.complex .f32 s.gr.1 s.gr.2)).setCell (p := ⟨w.heap.size, 8, none⟩) l0 (.float .f32 s.loss)).setCell (p := ⟨w.heap.size, 9, none⟩) l0 (.slice B1 m d1)); obtain ⟨U2, hU2e⟩ : ∃ U2, U2 = ((((w2.setCell ⟨w.heap.size, 6, none⟩ (.int .i64 s.mir)).setCell ⟨w.heap.size, 7, none⟩ (.complex .f32 s.gr.1 s.gr.2)).setCell ⟨w.heap.size, 8, none⟩ (.float .f32 s.loss)).setCell ⟨w.heap.size, 9, none⟩ (.slice B1 m d1)) := ⟨_, rfl⟩; have zU2 : U2.heap.size = w2.heap.size := (by rw [hU2e]; simp); rw [← hU2e] at ca fa cb fb oS oB hW; rw [← hU2e]; clear hU2e; replace la := ca.lt; replace lb := cb.lt
  have a11 := ca 11 _ rfl
  go_wp2_with fail
  (with_reducible refine (KE.out _ (rL.step hW)).mono ?_)
  rintro e w3 ⟨L1, q1, rfl, oL, hb⟩
  have apSL := apart_base oS oL (Nat.le_refl _)
  have apBL := apart_base oB oL (Nat.le_refl _)
  replace oL := owns_mono oL (show W.heap.size ≤ U2.heap.size by omega)
  have z3 := hb.size
  clear a11
  replace ca := ca.keep hb; replace fa := fa.keep hb la; replace la := ca.lt; replace cb := cb.keep hb; replace fb := fb.keep hb lb; replace lb := cb.lt; replace oS := owns_below oS hb; replace oB := owns_below oB hb; replace hW := then_ hW hb
  clear hb rL KE
  have a11 := ca 11 _ rfl
  have f11 := fa 11
  go_upto_region 4 with fail
  clear a11 f11
  replace ca := (ca.put 11 (.slice L1 p q1)); replace fa := (fa.set ⟨w.heap.size, 11, none⟩ (.slice L1 p q1)); replace cb := (cb.other ⟨w.heap.size, 11, none⟩ (.slice L1 p q1) n01); replace fb := (fb.set ⟨w.heap.size, 11, none⟩ (.slice L1 p q1)); replace oS := (own_setp oS lW0 11 (.slice L1 p q1)); replace oB := (own_setp oB lW0 11 (.slice L1 p q1)); replace oL := (own_setp oL lW0 11 (.slice L1 p q1)); replace hW := (hW.setCell (p := ⟨w.heap.size, 11, none⟩) l0 (.slice L1 p q1)); obtain ⟨U3, hU3e⟩ : ∃ U3, U3 = (w3.setCell ⟨w.heap.size, 11, none⟩ (.slice L1 p q1)) := ⟨_, rfl⟩; have zU3 : U3.heap.size = w3.heap.size := (by rw [hU3e]; simp); rw [← hU3e] at ca fa cb fb oS oB oL hW; rw [← hU3e]; clear hU3e; replace la := ca.lt; replace lb := cb.lt
  have a0 := ca 0 _ rfl; have a1 := ca 1 _ rfl; have a2 := ca 2 _ rfl; have a3 := ca 3 _ rfl; have a4 := ca 4 _ rfl; have a5 := ca 5 _ rfl; have a6 := ca 6 _ rfl; have a7 := ca 7 _ rfl; have a8 := ca 8 _ rfl; have a9 := ca 9 _ rfl; have a10 := ca 10 _ rfl; have a11 := ca 11 _ rfl
  have b0 := cb 0 _ rfl; have b1 := cb 1 _ rfl; have b2 := cb 2 _ rfl; have b3 := cb 3 _ rfl; have b4 := cb 4 _ rfl; have b5 := cb 5 _ rfl; have b6 := cb 6 _ rfl; have b7 := cb 7 _ rfl; have b8 := cb 8 _ rfl; have b9 := cb 9 _ rfl; have b10 := cb 10 _ rfl; have b11 := cb 11 _ rfl
  have f0 := fb 0; have f1 := fb 1; have f2 := fb 2; have f3 := fb 3; have f4 := fb 4; have f5 := fb 5; have f6 := fb 6; have f7 := fb 7; have f8 := fb 8; have f9 := fb 9; have f10 := fb 10; have f11 := fb 11
  go_wp2
  clear b0 b1 b2 b3 b4 b5 b6 b7 b8 b9 b10 b11
  replace cb := ((((((((((((cb.put 0 (.int .i64 s.sz)).put 1 (.float .f32 s.st)).put 2 (.float .f32 s.li.1)).put 3 (.float .f32 s.li.2.1)).put 4 (.float .f32 s.li.2.2)).put 5 (.slice A1 n c1)).put 6 (.int .i64 s.mir)).put 7 (.complex .f32 s.gr.1 s.gr.2)).put 8 (.float .f32 s.loss)).put 9 (.slice B1 m d1)).put 10 (.int .i64 s.tk)).put 11 (.slice L1 p q1)); replace fb := ((((((((((((fb.set ⟨w.heap.size + 1, 0, none⟩ (.int .i64 s.sz)).set ⟨w.heap.size + 1, 1, none⟩ (.float .f32 s.st)).set ⟨w.heap.size + 1, 2, none⟩ (.float .f32 s.li.1)).set ⟨w.heap.size + 1, 3, none⟩ (.float .f32 s.li.2.1)).set ⟨w.heap.size + 1, 4, none⟩ (.float .f32 s.li.2.2)).set ⟨w.heap.size + 1, 5, none⟩ (.slice A1 n c1)).set ⟨w.heap.size + 1, 6, none⟩ (.int .i64 s.mir)).set ⟨w.heap.size + 1, 7, none⟩ (.complex .f32 s.gr.1 s.gr.2)).set ⟨w.heap.size + 1, 8, none⟩ (.float .f32 s.loss)).set ⟨w.heap.size + 1, 9, none⟩ (.slice B1 m d1)).set ⟨w.heap.size + 1, 10, none⟩ (.int .i64 s.tk)).set ⟨w.heap.size + 1, 11, none⟩ (.slice L1 p q1)); replace oS := (own_setp (own_setp (own_setp (own_setp (own_setp (own_setp (own_setp (own_setp (own_setp (own_setp (own_setp (own_setp oS lW1 0 (.int .i64 s.sz)) lW1 1 (.float .f32 s.st)) lW1 2 (.float .f32 s.li.1)) lW1 3 (.float .f32 s.li.2.1)) lW1 4 (.float .f32 s.li.2.2)) lW1 5 (.slice A1 n c1)) lW1 6 (.int .i64 s.mir)) lW1 7 (.complex .f32 s.gr.1 s.gr.2)) lW1 8 (.float .f32 s.loss)) lW1 9 (.slice B1 m d1)) lW1 10 (.int .i64 s.tk)) lW1 11 (.slice L1 p q1)); replace oB := (own_setp (own_setp (own_setp (own_setp (own_setp (own_setp (own_setp (own_setp (own_setp (own_setp (own_setp (own_setp oB lW1 0 (.int .i64 s.sz)) lW1 1 (.float .f32 s.st)) lW1 2 (.float .f32 s.li.1)) lW1 3 (.float .f32 s.li.2.1)) lW1 4 (.float .f32 s.li.2.2)) lW1 5 (.slice A1 n c1)) lW1 6 (.int .i64 s.mir)) lW1 7 (.complex .f32 s.gr.1 s.gr.2)) lW1 8 (.float .f32 s.loss)) lW1 9 (.slice B1 m d1)) lW1 10 (.int .i64 s.tk)) lW1 11 (.slice L1 p q1)); replace oL := (own_setp (own_setp (own_setp (own_setp (own_setp (own_setp (own_setp (own_setp (own_setp (own_setp (own_setp (own_setp oL lW1 0 (.int .i64 s.sz)) lW1 1 (.float .f32 s.st)) lW1 2 (.float .f32 s.li.1)) lW1 3 (.float .f32 s.li.2.1)) lW1 4 (.float .f32 s.li.2.2)) lW1 5 (.slice A1 n c1)) lW1 6 (.int .i64 s.mir)) lW1 7 (.complex .f32 s.gr.1 s.gr.2)) lW1 8 (.float .f32 s.loss)) lW1 9 (.slice B1 m d1)) lW1 10 (.int .i64 s.tk)) lW1 11 (.slice L1 p q1)); replace hW := ((((((((((((hW.setCell (p := ⟨w.heap.size + 1, 0, none⟩) l1 (.int .i64 s.sz)).setCell (p := ⟨w.heap.size + 1, 1, none⟩) l1 (.float .f32 s.st)).setCell (p := ⟨w.heap.size + 1, 2, none⟩) l1 (.float .f32 s.li.1)).setCell (p := ⟨w.heap.size + 1, 3, none⟩) l1 (.float .f32 s.li.2.1)).setCell (p := ⟨w.heap.size + 1, 4, none⟩) l1 (.float .f32 s.li.2.2)).setCell (p := ⟨w.heap.size + 1, 5, none⟩) l1 (.slice A1 n c1)).setCell (p := ⟨w.heap.size + 1, 6, none⟩) l1 (.int .i64 s.mir)).setCell (p := ⟨w.heap.size + 1, 7, none⟩) l1 (.complex .f32 s.gr.1 s.gr.2)).setCell (p := ⟨w.heap.size + 1, 8, none⟩) l1 (.float .f32 s.loss)).setCell (p := ⟨w.heap.size + 1, 9, none⟩) l1 (.slice B1 m d1)).setCell (p := ⟨w.heap.size + 1, 10, none⟩) l1 (.int .i64 s.tk)).setCell (p := ⟨w.heap.size + 1, 11, none⟩) l1 (.slice L1 p q1)); obtain ⟨F, hFe⟩ : ∃ F, F = ((((((((((((U3.setCell ⟨w.heap.size + 1, 0, none⟩ (.int .i64 s.sz)).setCell ⟨w.heap.size + 1, 1, none⟩ (.float .f32 s.st)).setCell ⟨w.heap.size + 1, 2, none⟩ (.float .f32 s.li.1)).setCell ⟨w.heap.size + 1, 3, none⟩ (.float .f32 s.li.2.1)).setCell ⟨w.heap.size + 1, 4, none⟩ (.float .f32 s.li.2.2)).setCell ⟨w.heap.size + 1, 5, none⟩ (.slice A1 n c1)).setCell ⟨w.heap.size + 1, 6, none⟩ (.int .i64 s.mir)).setCell ⟨w.heap.size + 1, 7, none⟩ (.complex .f32 s.gr.1 s.gr.2)).setCell ⟨w.heap.size + 1, 8, none⟩ (.float .f32 s.loss)).setCell ⟨w.heap.size + 1, 9, none⟩ (.slice B1 m d1)).setCell ⟨w.heap.size + 1, 10, none⟩ (.int .i64 s.tk)).setCell ⟨w.heap.size + 1, 11, none⟩ (.slice L1 p q1)) := ⟨_, rfl⟩; have zF : F.heap.size = U3.heap.size := (by rw [hFe]; simp); rw [← hFe] at cb fb oS oB oL hW; rw [← hFe]; clear hFe; replace lb := cb.lt
  have b0 := cb 0 _ rfl; have b1 := cb 1 _ rfl; have b2 := cb 2 _ rfl; have b3 := cb 3 _ rfl; have b4 := cb 4 _ rfl; have b5 := cb 5 _ rfl; have b6 := cb 6 _ rfl; have b7 := cb 7 _ rfl; have b8 := cb 8 _ rfl; have b9 := cb 9 _ rfl; have b10 := cb 10 _ rfl; have b11 := cb 11 _ rfl
  refine bodyPost_ret (v := .agg #[.int .i64 s.sz, .float .f32 s.st, .float .f32 s.li.1, .float .f32 s.li.2.1, .float .f32 s.li.2.2, .slice A1 n c1, .int .i64 s.mir, .complex .f32 s.gr.1 s.gr.2, .float .f32 s.loss, .slice B1 m d1, .int .i64 s.tk, .slice L1 p q1]) (by simp [results, Try.results35, go_sem, b0, b1, b2, b3, b4, b5, b6, b7, b8, b9, b10, b11]) rfl ⟨⟨A1, B1, L1, c1, d1, q1, rfl, owns_mono oS (by omega), owns_mono oB (by omega), owns_mono oL (by omega), apSB, apSL, apBL⟩, hW⟩
end Go.Proofs.Ytoafldgngbaddaa

/- StepTumble: the program's, of valid tumbles. -/
namespace Go.Proofs.Ytoafldgngbaddaa
open Go.RowKit
attribute [local go_sem] run_store_float run_store_complex

def StepI (mir : Int) (gr : Pt) (loss n : Nat) (bs : List Bd) (base : Nat) (e : Ending) (w' : World) : Prop :=
  (allGo gr bs = true → ∃ B d, e = .returned (.tuple #[.agg #[.int .i64 mir, .complex .f32 gr.1 gr.2, .float .f32 loss, .slice B n d], .bool true]) ∧ w'.ownsRow base 103 2 (.slice B n d) n (flat bdC (goL mir gr loss bs))) ∧
  (allGo gr bs = false → ∃ (B : Option Addr) (m d : Nat), e = .returned (.tuple #[.agg #[.int .i64 mir, .complex .f32 gr.1 gr.2, .float .f32 loss, .slice B m d], .bool false]))
set_option maxRecDepth 100000 in
set_option maxHeartbeats 4000000 in
theorem stepTumble_any (mir : Int) (gr : Pt) (loss : Nat) (A : Option Addr) (n c : Nat) (bs : List Bd) (w : World) (hn : n ≤ 8) (ht : tumB mir gr loss bs = true) (ha : Rd bdC 2 w w.heap.size A n bs) :
    Calls Try.prog 78 #[.agg #[.int .i64 mir, .complex .f32 gr.1 gr.2, .float .f32 loss, .slice A n c]] w fun e w' => StepI mir gr loss n bs w.heap.size e w' ∧ Below w.heap.size w w' := by
  have KI := Lib.hid (fun w h => isTumble_any mir gr loss A n c bs w hn h)
  have KT := Lib.hid (fun w h => tick_any mir gr loss A n c bs w hn h)
  rw [ht] at KI
  go_enter Try.func78, Try.ntmps78
  go_wp2_with fail
  have hW := Below.refl w.heap.size w
  have ca := CA.new w #[.int .i64 mir, .complex .f32 gr.1 gr.2, .float .f32 loss, .slice A n c] 30; have fa := FA.new w #[.int .i64 mir, .complex .f32 gr.1 gr.2, .float .f32 loss, .slice A n c] 30; replace hW := hW.alloc (hW.size) (Obj.cells #[.int .i64 mir, .complex .f32 gr.1 gr.2, .float .f32 loss, .slice A n c] 30); obtain ⟨V, hVe⟩ : ∃ V, V = w.alloc (Obj.cells #[.int .i64 mir, .complex .f32 gr.1 gr.2, .float .f32 loss, .slice A n c] 30) := ⟨_, rfl⟩; have zV : V.heap.size = w.heap.size + 1 := (by rw [hVe]; simp); rw [← hVe] at ca fa hW; rw [← hVe]; clear hVe; have la := ca.lt
  have cb := CA.new V #[.int .i64 0, .complex .f32 0 0, .float .f32 0, .slice none 0 0] 30; have fb := FA.new V #[.int .i64 0, .complex .f32 0 0, .float .f32 0, .slice none 0 0] 30; replace ca := ca.alloc (Obj.cells #[.int .i64 0, .complex .f32 0 0, .float .f32 0, .slice none 0 0] 30); replace fa := fa.alloc la (Obj.cells #[.int .i64 0, .complex .f32 0 0, .float .f32 0, .slice none 0 0] 30); replace hW := hW.alloc (hW.size) (Obj.cells #[.int .i64 0, .complex .f32 0 0, .float .f32 0, .slice none 0 0] 30); obtain ⟨W, hWe⟩ : ∃ W, W = V.alloc (Obj.cells #[.int .i64 0, .complex .f32 0 0, .float .f32 0, .slice none 0 0] 30) := ⟨_, rfl⟩; have zW : W.heap.size = V.heap.size + 1 := (by rw [hWe]; simp); rw [← hWe] at cb fb ca fa hW; rw [← hWe]; clear hWe; have lb := cb.lt; replace la := ca.lt
  rw [zV] at cb fb lb zW
  clear zV
  have l1 : w.heap.size ≤ w.heap.size + 1 := by omega
  have lW1 : w.heap.size + 1 < W.heap.size := by omega
  have n10 : ¬ w.heap.size = w.heap.size + 1 := by omega
  (with_reducible refine (KI.out _ (ha.step hW)).mono ?_)
  rintro e w1 ⟨rfl, hb⟩
  replace ca := ca.keep hb; replace fa := fa.keep hb la; replace la := ca.lt; replace cb := cb.keep hb; replace fb := fb.keep hb lb; replace lb := cb.lt; replace hW := then_ hW hb
  have z1 := hb.size
  clear hb KI
  have a0 := ca 0 _ rfl; have a1 := ca 1 _ rfl; have a2 := ca 2 _ rfl; have a3 := ca 3 _ rfl
  go_wp2_with fail
  (with_reducible refine (KT.out _ (ha.step hW)).mono ?_)
  rintro e w2 ⟨hp, hb⟩
  clear a0 a1 a2 a3 KT
  replace ca := ca.keep hb; replace fa := fa.keep hb la; replace la := ca.lt; replace cb := cb.keep hb; replace fb := fb.keep hb lb; replace lb := cb.lt; replace hW := then_ hW hb
  have z2 := hb.size
  clear hb
  cases hg : allGo gr bs
  · skip
    obtain ⟨B, d, rfl, oB⟩ := hp.2 hg
    clear hp
    unfold tumV
    go_upto_region 4 with fail
    have hU2 := Below.refl w2.heap.size w2
    have cu := CA.new w2 #[.int .i64 mir, .complex .f32 gr.1 gr.2, .float .f32 loss, .slice B n d] 30; have fu := FA.new w2 #[.int .i64 mir, .complex .f32 gr.1 gr.2, .float .f32 loss, .slice B n d] 30; replace cb := cb.alloc (Obj.cells #[.int .i64 mir, .complex .f32 gr.1 gr.2, .float .f32 loss, .slice B n d] 30); replace fb := fb.alloc lb (Obj.cells #[.int .i64 mir, .complex .f32 gr.1 gr.2, .float .f32 loss, .slice B n d] 30); replace hW := hW.alloc (hW.size) (Obj.cells #[.int .i64 mir, .complex .f32 gr.1 gr.2, .float .f32 loss, .slice B n d] 30); replace hU2 := hU2.alloc (hU2.size) (Obj.cells #[.int .i64 mir, .complex .f32 gr.1 gr.2, .float .f32 loss, .slice B n d] 30); obtain ⟨U, hUe⟩ : ∃ U, U = w2.alloc (Obj.cells #[.int .i64 mir, .complex .f32 gr.1 gr.2, .float .f32 loss, .slice B n d] 30) := ⟨_, rfl⟩; have zU : U.heap.size = w2.heap.size + 1 := (by rw [hUe]; simp); rw [← hUe] at cu fu cb fb hW hU2; rw [← hUe]; clear hUe; have lu := cu.lt; replace lb := cb.lt
    replace oB := owns_below oB hU2
    replace oB := oB
    have u0 := cu 0 _ rfl; have u1 := cu 1 _ rfl; have u2 := cu 2 _ rfl; have u3 := cu 3 _ rfl
    have b0 := cb 0 _ rfl; have b1 := cb 1 _ rfl; have b2 := cb 2 _ rfl; have b3 := cb 3 _ rfl
    have f0 := fb 0; have f1 := fb 1; have f2 := fb 2; have f3 := fb 3
    go_wp2
    clear b0 b1 b2 b3 u0 u1 u2 u3
    replace cb := ((((cb.put 0 (.int .i64 mir)).put 1 (.complex .f32 gr.1 gr.2)).put 2 (.float .f32 loss)).put 3 (.slice B n d)); replace fb := ((((fb.set ⟨w.heap.size + 1, 0, none⟩ (.int .i64 mir)).set ⟨w.heap.size + 1, 1, none⟩ (.complex .f32 gr.1 gr.2)).set ⟨w.heap.size + 1, 2, none⟩ (.float .f32 loss)).set ⟨w.heap.size + 1, 3, none⟩ (.slice B n d)); replace oB := (own_setp (own_setp (own_setp (own_setp oB (show w.heap.size + 1 < w1.heap.size by omega) 0 (.int .i64 mir)) (show w.heap.size + 1 < w1.heap.size by omega) 1 (.complex .f32 gr.1 gr.2)) (show w.heap.size + 1 < w1.heap.size by omega) 2 (.float .f32 loss)) (show w.heap.size + 1 < w1.heap.size by omega) 3 (.slice B n d)); replace hW := ((((hW.setCell (p := ⟨w.heap.size + 1, 0, none⟩) l1 (.int .i64 mir)).setCell (p := ⟨w.heap.size + 1, 1, none⟩) l1 (.complex .f32 gr.1 gr.2)).setCell (p := ⟨w.heap.size + 1, 2, none⟩) l1 (.float .f32 loss)).setCell (p := ⟨w.heap.size + 1, 3, none⟩) l1 (.slice B n d)); obtain ⟨F2, hF2e⟩ : ∃ F2, F2 = ((((U.setCell ⟨w.heap.size + 1, 0, none⟩ (.int .i64 mir)).setCell ⟨w.heap.size + 1, 1, none⟩ (.complex .f32 gr.1 gr.2)).setCell ⟨w.heap.size + 1, 2, none⟩ (.float .f32 loss)).setCell ⟨w.heap.size + 1, 3, none⟩ (.slice B n d)) := ⟨_, rfl⟩; have zF2 : F2.heap.size = U.heap.size := (by rw [hF2e]; simp); rw [← hF2e] at cb fb oB hW; rw [← hF2e]; clear hF2e; replace lb := cb.lt
    have b0 := cb 0 _ rfl; have b1 := cb 1 _ rfl; have b2 := cb 2 _ rfl; have b3 := cb 3 _ rfl
    refine bodyPost_ret (v := .tuple #[.agg #[.int .i64 mir, .complex .f32 gr.1 gr.2, .float .f32 loss, .slice B n d], .bool false]) (by simp [results, Try.results78, go_sem, b0, b1, b2, b3]) rfl ⟨⟨fun h => absurd h (by rw [hg]; simp), fun _ => ⟨_, _, _, rfl⟩⟩, hW⟩
  · skip
    obtain ⟨B, d, F, mm, rfl, oB, _⟩ := hp.1 hg
    clear hp
    unfold tumV
    go_upto_region 4 with fail
    have hU2 := Below.refl w2.heap.size w2
    have cu := CA.new w2 #[.int .i64 mir, .complex .f32 gr.1 gr.2, .float .f32 loss, .slice B n d] 30; have fu := FA.new w2 #[.int .i64 mir, .complex .f32 gr.1 gr.2, .float .f32 loss, .slice B n d] 30; replace cb := cb.alloc (Obj.cells #[.int .i64 mir, .complex .f32 gr.1 gr.2, .float .f32 loss, .slice B n d] 30); replace fb := fb.alloc lb (Obj.cells #[.int .i64 mir, .complex .f32 gr.1 gr.2, .float .f32 loss, .slice B n d] 30); replace hW := hW.alloc (hW.size) (Obj.cells #[.int .i64 mir, .complex .f32 gr.1 gr.2, .float .f32 loss, .slice B n d] 30); replace hU2 := hU2.alloc (hU2.size) (Obj.cells #[.int .i64 mir, .complex .f32 gr.1 gr.2, .float .f32 loss, .slice B n d] 30); obtain ⟨U, hUe⟩ : ∃ U, U = w2.alloc (Obj.cells #[.int .i64 mir, .complex .f32 gr.1 gr.2, .float .f32 loss, .slice B n d] 30) := ⟨_, rfl⟩; have zU : U.heap.size = w2.heap.size + 1 := (by rw [hUe]; simp); rw [← hUe] at cu fu cb fb hW hU2; rw [← hUe]; clear hUe; have lu := cu.lt; replace lb := cb.lt
    replace oB := owns_below oB hU2
    replace oB := oB
    have u0 := cu 0 _ rfl; have u1 := cu 1 _ rfl; have u2 := cu 2 _ rfl; have u3 := cu 3 _ rfl
    have b0 := cb 0 _ rfl; have b1 := cb 1 _ rfl; have b2 := cb 2 _ rfl; have b3 := cb 3 _ rfl
    have f0 := fb 0; have f1 := fb 1; have f2 := fb 2; have f3 := fb 3
    go_wp2
    clear b0 b1 b2 b3 u0 u1 u2 u3
    replace cb := ((((cb.put 0 (.int .i64 mir)).put 1 (.complex .f32 gr.1 gr.2)).put 2 (.float .f32 loss)).put 3 (.slice B n d)); replace fb := ((((fb.set ⟨w.heap.size + 1, 0, none⟩ (.int .i64 mir)).set ⟨w.heap.size + 1, 1, none⟩ (.complex .f32 gr.1 gr.2)).set ⟨w.heap.size + 1, 2, none⟩ (.float .f32 loss)).set ⟨w.heap.size + 1, 3, none⟩ (.slice B n d)); replace oB := (own_setp (own_setp (own_setp (own_setp oB (show w.heap.size + 1 < w1.heap.size by omega) 0 (.int .i64 mir)) (show w.heap.size + 1 < w1.heap.size by omega) 1 (.complex .f32 gr.1 gr.2)) (show w.heap.size + 1 < w1.heap.size by omega) 2 (.float .f32 loss)) (show w.heap.size + 1 < w1.heap.size by omega) 3 (.slice B n d)); replace hW := ((((hW.setCell (p := ⟨w.heap.size + 1, 0, none⟩) l1 (.int .i64 mir)).setCell (p := ⟨w.heap.size + 1, 1, none⟩) l1 (.complex .f32 gr.1 gr.2)).setCell (p := ⟨w.heap.size + 1, 2, none⟩) l1 (.float .f32 loss)).setCell (p := ⟨w.heap.size + 1, 3, none⟩) l1 (.slice B n d)); obtain ⟨F2, hF2e⟩ : ∃ F2, F2 = ((((U.setCell ⟨w.heap.size + 1, 0, none⟩ (.int .i64 mir)).setCell ⟨w.heap.size + 1, 1, none⟩ (.complex .f32 gr.1 gr.2)).setCell ⟨w.heap.size + 1, 2, none⟩ (.float .f32 loss)).setCell ⟨w.heap.size + 1, 3, none⟩ (.slice B n d)) := ⟨_, rfl⟩; have zF2 : F2.heap.size = U.heap.size := (by rw [hF2e]; simp); rw [← hF2e] at cb fb oB hW; rw [← hF2e]; clear hF2e; replace lb := cb.lt
    have b0 := cb 0 _ rfl; have b1 := cb 1 _ rfl; have b2 := cb 2 _ rfl; have b3 := cb 3 _ rfl
    refine bodyPost_ret (v := .tuple #[.agg #[.int .i64 mir, .complex .f32 gr.1 gr.2, .float .f32 loss, .slice B n d], .bool true]) (by simp [results, Try.results78, go_sem, b0, b1, b2, b3]) rfl ⟨⟨fun _ => ⟨B, d, rfl, owns_mono oB (by omega)⟩, fun h => absurd h (by rw [hg]; simp)⟩, hW⟩
end Go.Proofs.Ytoafldgngbaddaa

/- A show that is changed in place: its box, its rows. -/
namespace Go.Proofs.Ytoafldgngbaddaa
open Go.RowKit

def shwL (s : Shw) (A B L : Option Addr) (n c m d p q : Nat) : List Value := [.int .i64 s.sz, .float .f32 s.st, .float .f32 s.li.1, .float .f32 s.li.2.1, .float .f32 s.li.2.2, .slice A n c, .int .i64 s.mir, .complex .f32 s.gr.1 s.gr.2, .float .f32 s.loss, .slice B m d, .int .i64 s.tk, .slice L p q]
def shw0 : List Value := [.int .i64 0, .float .f32 0, .float .f32 0, .float .f32 0, .float .f32 0, .slice none 0 0, .int .i64 0, .complex .f32 0 0, .float .f32 0, .slice none 0 0, .int .i64 0, .slice none 0 0]
def OffA (A : Option Addr) (n c x : Nat) : Prop := ∀ b, x ≤ b → b ≤ x + 2 → Off (.slice A n c) b
/-- a block of one of a show's rows -/
def OwnB (s : Shw) (A B L : Option Addr) (c d q : Nat) (b : Nat) : Prop := (Value.slice A s.sh.length c).ownBlock = some b ∨ (Value.slice B s.bs.length d).ownBlock = some b ∨ (Value.slice L s.log.length q).ownBlock = some b
/-- below base nothing is changed; nothing older but the blocks O -/
structure BelF (base : Nat) (O : Nat → Prop) (w w' : World) : Prop where
  bel : Below base w w'
  far : ∀ b, b < w.heap.size → ¬ O b → w'.heap[b]? = w.heap[b]?
/-- a row's block is one of O, or not older than x -/
def InO (O : Nat → Prop) (x : Nat) (v : Value) : Prop := ∀ g, v.ownBlock = some g → O g ∨ x ≤ g
/-- a show is being changed: its box x holds l, the event's box stands behind it, then the answer's -/
structure HS (W0 : World) (O : Nat → Prop) (base x : Nat) (e : Ev) (l o : List Value) (s : Shw) (A B L : Option Addr) (c d q : Nat) (W : World) : Prop where
  cx : CA W x l
  fx : FA W x
  cy : CA W (x + 1) (evC e)
  co : CA W (x + 2) o
  fo : FA W (x + 2)
  own : OwnS W base s A B L c d q
  oA : OffA A s.sh.length c x
  oB : OffA B s.bs.length d x
  oL : OffA L s.log.length q x
  bx : base ≤ x
  lt : x + 2 < W.heap.size
  x0 : W0.heap.size ≤ x
  iA : InO O x (.slice A s.sh.length c)
  iB : InO O x (.slice B s.bs.length d)
  iL : InO O x (.slice L s.log.length q)
  bel : BelF base O W0 W

theorem BelF.step {base : Nat} {O : Nat → Prop} {w w' w2 : World} (h : BelF base O w w') (hb : Below base w' w2) (hf : ∀ b, b < w.heap.size → ¬ O b → w2.heap[b]? = w'.heap[b]?) : BelF base O w w2 :=
  ⟨h.bel.trans hb, fun b h1 h2 => (hf b h1 h2).trans (h.far b h1 h2)⟩
theorem BelF.setCell {base : Nat} {O : Nat → Prop} {w w' : World} (h : BelF base O w w') {p : Addr} (hp : base ≤ p.block) (hx : w.heap.size ≤ p.block) (u : Value) : BelF base O w (w'.setCell p u) :=
  ⟨h.bel.setCell hp u, fun b h1 h2 => (Below.heap_setCell w' p u b (by omega)).trans (h.far b h1 h2)⟩
theorem BelF.grown {base x : Nat} {O : Nat → Prop} {w w1 w2 : World} {v : Value} (h : BelF base O w w1) (hg : w1.grownBy w2 v.ownBlock) (hB : base ≤ w1.heap.size) (hr : ∀ k, v.ownBlock = some k → base ≤ k) (hx : w.heap.size ≤ x) (hi : InO O x v) : BelF base O w w2 :=
  ⟨h.bel.grown hg hB hr, fun b h1 h2 => (hg.block b (Nat.lt_of_lt_of_le h1 h.bel.size) (fun e => by
    rcases hi b e.symm with k | k
    · exact h2 k
    · omega)).trans (h.far b h1 h2)⟩
theorem InO.new {O : Nat → Prop} {x sz : Nat} {v v' : Value} (h : InO O x v) (hat : v'.ownBlock = v.ownBlock ∨ v'.ownBlock = some sz) (hx : x ≤ sz) : InO O x v' := fun g e => by
  rcases hat with k | k
  · exact h g (by rw [← k, e])
  · rw [k] at e; injection e with e; right; omega

theorem hs_new {w : World} {base : Nat} (e : Ev) {s : Shw} {A B L : Option Addr} {c d q : Nat} (hb : base ≤ w.heap.size) (own : OwnS w base s A B L c d q) (l o : Array Value) (t1 t2 t3 : TypeId) (hl : l.toList = shwL s A B L s.sh.length c s.bs.length d s.log.length q) (ho : o.toList = shw0) (ey : Array Value) (hy : ey.toList = evC e) :
    HS w (OwnB s A B L c d q) base w.heap.size e (shwL s A B L s.sh.length c s.bs.length d s.log.length q) shw0 s A B L c d q (((w.alloc (Obj.cells l t1)).alloc (Obj.cells ey t2)).alloc (Obj.cells o t3)) := by
  have z1 : (w.alloc (Obj.cells l t1)).heap.size = w.heap.size + 1 := by simp
  have z2 : ((w.alloc (Obj.cells l t1)).alloc (Obj.cells ey t2)).heap.size = w.heap.size + 2 := by simp
  have hB : Below w.heap.size w (((w.alloc (Obj.cells l t1)).alloc (Obj.cells ey t2)).alloc (Obj.cells o t3)) := by (repeat (first | with_reducible assumption | exact Below.refl _ _ | (refine Below.setCell ?_ (by first | exact Nat.le_refl _ | (simp; done) | omega | (simp; omega)) _) | (refine below_drewN ?_ _) | (refine Below.drew ?_) | (refine Below.alloc ?_ (by first | exact Nat.le_refl _ | (simp; done) | omega | (simp; omega)) _) | (refine then_ ?_ (by with_reducible assumption)) | assumption | (refine then_ ?_ (by assumption))))
  refine ⟨?_, ?_, ?_, ?_, ?_, own.below hB, fun b h1 _ => off_ge own.1 h1, fun b h1 _ => off_ge own.2.1 h1, fun b h1 _ => off_ge own.2.2.1 h1, hb, by simp, Nat.le_refl _, fun g e => .inl (.inl e), fun g e => .inl (.inr (.inl e)), fun g e => .inl (.inr (.inr e)), ⟨hB.mono hb, fun b h1 _ => hB.block b h1⟩⟩
  · rw [← hl]; exact ((CA.new w l t1).alloc _).alloc _
  · exact ((FA.new w l t1).alloc (by simp) _).alloc (by simp; omega) _
  · rw [← hy, ← z1]; exact (CA.new _ ey t2).alloc _
  · rw [← ho, ← z2]; exact CA.new _ o t3
  · rw [← z2]; exact FA.new _ o t3

section
variable {W0 : World} {O : Nat → Prop} {base x : Nat} {e : Ev} {l o : List Value} {s : Shw} {A B L : Option Addr} {c d q : Nat} {W W' : World}
theorem HS.below_ (h : HS W0 O base x e l o s A B L c d q W) (hb : Below W.heap.size W W') : HS W0 O base x e l o s A B L c d q W' :=
  ⟨h.cx.keep hb, h.fx.keep hb (by have := h.lt; omega), h.cy.keep hb, h.co.keep hb, h.fo.keep hb h.lt, h.own.below hb, h.oA, h.oB, h.oL, h.bx, Nat.lt_of_lt_of_le h.lt hb.size, h.x0, h.iA, h.iB, h.iL, h.bel.step (hb.mono (Nat.le_of_lt (by have := h.bx; have := h.lt; omega))) (fun b h1 _ => hb.block b (by have := h.x0; have := h.lt; omega))⟩
theorem HS.alloc_ (h : HS W0 O base x e l o s A B L c d q W) (ob : Obj) : HS W0 O base x e l o s A B L c d q (W.alloc ob) := h.below_ (by (repeat (first | with_reducible assumption | exact Below.refl _ _ | (refine Below.setCell ?_ (by first | exact Nat.le_refl _ | (simp; done) | omega | (simp; omega)) _) | (refine below_drewN ?_ _) | (refine Below.drew ?_) | (refine Below.alloc ?_ (by first | exact Nat.le_refl _ | (simp; done) | omega | (simp; omega)) _) | (refine then_ ?_ (by with_reducible assumption)) | assumption | (refine then_ ?_ (by assumption)))))
theorem HS.drew_ (h : HS W0 O base x e l o s A B L c d q W) (k : Nat) : HS W0 O base x e l o s A B L c d q (W.drewN k) := h.below_ (by (repeat (first | with_reducible assumption | exact Below.refl _ _ | (refine Below.setCell ?_ (by first | exact Nat.le_refl _ | (simp; done) | omega | (simp; omega)) _) | (refine below_drewN ?_ _) | (refine Below.drew ?_) | (refine Below.alloc ?_ (by first | exact Nat.le_refl _ | (simp; done) | omega | (simp; omega)) _) | (refine then_ ?_ (by with_reducible assumption)) | assumption | (refine then_ ?_ (by assumption)))))
/-- a cell of the show's box is set -/
theorem HS.put (h : HS W0 O base x e l o s A B L c d q W) (i : Nat) (u : Value) : HS W0 O base x e (l.set i u) o s A B L c d q (W.setCell ⟨x, i, none⟩ u) :=
  have off : ∀ {E : TypeId} {sz : Nat} {v : Value} {n : Nat} {xs : List Value}, W.ownsRow base E sz v n xs → Off v x → (W.setCell ⟨x, i, none⟩ u).ownsRow base E sz v n xs := fun ho hf => own_set ho hf i u
  ⟨h.cx.put i u, h.fx.set _ _, h.cy.other ⟨x, i, none⟩ u (by show ¬ x + 1 = x; omega), h.co.other ⟨x, i, none⟩ u (by show ¬ x + 2 = x; omega), h.fo.set _ _,
    ⟨off h.own.1 (h.oA x (Nat.le_refl _) (by omega)), off h.own.2.1 (h.oB x (Nat.le_refl _) (by omega)), off h.own.2.2.1 (h.oL x (Nat.le_refl _) (by omega)), h.own.2.2.2⟩, h.oA, h.oB, h.oL, h.bx, by have := h.lt; simp [World.setCell]; omega, h.x0, h.iA, h.iB, h.iL, h.bel.setCell (p := ⟨x, i, none⟩) h.bx h.x0 u⟩
/-- a cell of the answer's box is set -/
theorem HS.puto (h : HS W0 O base x e l o s A B L c d q W) (i : Nat) (u : Value) : HS W0 O base x e l (o.set i u) s A B L c d q (W.setCell ⟨x + 2, i, none⟩ u) :=
  have off : ∀ {E : TypeId} {sz : Nat} {v : Value} {n : Nat} {xs : List Value}, W.ownsRow base E sz v n xs → Off v (x + 2) → (W.setCell ⟨x + 2, i, none⟩ u).ownsRow base E sz v n xs := fun ho hf => own_set ho hf i u
  ⟨h.cx.other ⟨x + 2, i, none⟩ u (by show ¬ x = x + 2; omega), h.fx.set _ _, h.cy.other ⟨x + 2, i, none⟩ u (by show ¬ x + 1 = x + 2; omega), h.co.put i u, h.fo.set _ _,
    ⟨off h.own.1 (h.oA _ (by omega) (Nat.le_refl _)), off h.own.2.1 (h.oB _ (by omega) (Nat.le_refl _)), off h.own.2.2.1 (h.oL _ (by omega) (Nat.le_refl _)), h.own.2.2.2⟩, h.oA, h.oB, h.oL, h.bx, by have := h.lt; simp [World.setCell]; omega, h.x0, h.iA, h.iB, h.iL, h.bel.setCell (p := ⟨x + 2, i, none⟩) (by have := h.bx; show base ≤ x + 2; omega) (by have := h.x0; show W0.heap.size ≤ x + 2; omega) u⟩
/-- its rows are another show's as well -/
theorem HS.as (h : HS W0 O base x e l o s A B L c d q W) (t : Shw) (h1 : t.sh = s.sh) (h2 : t.bs = s.bs) (h3 : t.log = s.log) : HS W0 O base x e l o t A B L c d q W := by
  obtain ⟨a, b, c', d', e', f, g, i, j, k, m, x0, p, q', r, n⟩ := h
  refine ⟨a, b, c', d', e', ?_, ?_, ?_, ?_, k, m, x0, ?_, ?_, ?_, n⟩
  · unfold OwnS at *; rw [h1, h2, h3]; exact f
  · rw [h1]; exact g
  · rw [h2]; exact i
  · rw [h3]; exact j
  · rw [h1]; exact p
  · rw [h2]; exact q'
  · rw [h3]; exact r
/-- what a row that has grown in place, or has moved to a new block, stays apart from -/
theorem off_new {v v' : Value} {g sz : Nat} (hat : v'.ownBlock = v.ownBlock ∨ v'.ownBlock = some sz) (h : Off v g) (hg : g < sz) : Off v' g := by
  intro e
  rcases hat with k | k
  · exact h (by rw [← k, e])
  · rw [k] at e; injection e with e; omega
theorem apart_new {v v' u : Value} {sz : Nat} (hat : v'.ownBlock = v.ownBlock ∨ v'.ownBlock = some sz) (h : Apart v u) (hu : ∀ g, u.ownBlock = some g → g < sz) : Apart v' u := by
  intro g e hg
  rcases hat with k | k
  · exact h g (by rw [← k, e]) hg
  · rw [k] at e; injection e with e; have := hu g hg; omega
theorem Apart.symm {v u : Value} (h : Apart v u) : Apart u v := fun g e k => h g k e
/-- the row of shards has grown -/
theorem HS.growA (h : HS W0 O base x e l o s A B L c d q W) {sh : List Sh} {A' : Option Addr} {c' : Nat} (hg : W.grownBy W' (Value.slice A s.sh.length c).ownBlock) (own : W'.ownsRow base 43 7 (.slice A' sh.length c') sh.length (flat shC sh))
    (hat : (Value.slice A' sh.length c').ownBlock = (Value.slice A s.sh.length c).ownBlock ∨ (Value.slice A' sh.length c').ownBlock = some W.heap.size) : HS W0 O base x e l o { s with sh := sh } A' B L c' d q W' := by
  have nx : ∀ b, x ≤ b → b ≤ x + 2 → ∀ k, (Value.slice A s.sh.length c).ownBlock = some k → b ≠ k := fun b h1 h2 k hk e => h.oA b h1 h2 (by rw [hk, e])
  have lt := h.lt
  refine ⟨h.cx.grown hg (nx _ (by omega) (by omega)), h.fx.grown (by omega) hg (nx _ (by omega) (by omega)), h.cy.grown hg (nx _ (by omega) (by omega)), h.co.grown hg (nx _ (by omega) (by omega)), h.fo.grown lt hg (nx _ (by omega) (by omega)), ⟨own, owns_grown h.own.2.1 hg ?_, owns_grown h.own.2.2.1 hg ?_, apart_new hat h.own.2.2.2.1 (fun g e => (h.own.2.1.lt g e).2), apart_new hat h.own.2.2.2.2.1 (fun g e => (h.own.2.2.1.lt g e).2), h.own.2.2.2.2.2⟩,
    fun b h1 h2 => off_new hat (h.oA b h1 h2) (by omega), h.oB, h.oL, h.bx, Nat.lt_of_lt_of_le lt hg.size, h.x0, h.iA.new hat (by omega), h.iB, h.iL, h.bel.grown hg (by have := h.bx; omega) (fun k hk => (h.own.1.lt k hk).1) h.x0 h.iA⟩
  · exact fun g hg => h.own.2.2.2.1 g hg
  · exact fun g hg => h.own.2.2.2.2.1 g hg
/-- the row of beads has grown -/
theorem HS.growB (h : HS W0 O base x e l o s A B L c d q W) {bs : List Bd} {B' : Option Addr} {d' : Nat} (hg : W.grownBy W' (Value.slice B s.bs.length d).ownBlock) (own : W'.ownsRow base 103 2 (.slice B' bs.length d') bs.length (flat bdC bs))
    (hat : (Value.slice B' bs.length d').ownBlock = (Value.slice B s.bs.length d).ownBlock ∨ (Value.slice B' bs.length d').ownBlock = some W.heap.size) : HS W0 O base x e l o { s with bs := bs } A B' L c d' q W' := by
  have nx : ∀ b, x ≤ b → b ≤ x + 2 → ∀ k, (Value.slice B s.bs.length d).ownBlock = some k → b ≠ k := fun b h1 h2 k hk e => h.oB b h1 h2 (by rw [hk, e])
  have lt := h.lt
  refine ⟨h.cx.grown hg (nx _ (by omega) (by omega)), h.fx.grown (by omega) hg (nx _ (by omega) (by omega)), h.cy.grown hg (nx _ (by omega) (by omega)), h.co.grown hg (nx _ (by omega) (by omega)), h.fo.grown lt hg (nx _ (by omega) (by omega)), ⟨owns_grown h.own.1 hg ?_, own, owns_grown h.own.2.2.1 hg ?_, (apart_new hat h.own.2.2.2.1.symm (fun g e => (h.own.1.lt g e).2)).symm, h.own.2.2.2.2.1, apart_new hat h.own.2.2.2.2.2 (fun g e => (h.own.2.2.1.lt g e).2)⟩,
    h.oA, fun b h1 h2 => off_new hat (h.oB b h1 h2) (by omega), h.oL, h.bx, Nat.lt_of_lt_of_le lt hg.size, h.x0, h.iA, h.iB.new hat (by omega), h.iL, h.bel.grown hg (by have := h.bx; omega) (fun k hk => (h.own.2.1.lt k hk).1) h.x0 h.iB⟩
  · exact fun g hg => h.own.2.2.2.1.symm g hg
  · exact fun g hg => h.own.2.2.2.2.2 g hg
/-- the log has grown -/
theorem HS.growL (h : HS W0 O base x e l o s A B L c d q W) {log : List Ev} {L' : Option Addr} {q' : Nat} (hg : W.grownBy W' (Value.slice L s.log.length q).ownBlock) (own : W'.ownsRow base 45 13 (.slice L' log.length q') log.length (flat evC log))
    (hat : (Value.slice L' log.length q').ownBlock = (Value.slice L s.log.length q).ownBlock ∨ (Value.slice L' log.length q').ownBlock = some W.heap.size) : HS W0 O base x e l o { s with log := log } A B L' c d q' W' := by
  have nx : ∀ b, x ≤ b → b ≤ x + 2 → ∀ k, (Value.slice L s.log.length q).ownBlock = some k → b ≠ k := fun b h1 h2 k hk e => h.oL b h1 h2 (by rw [hk, e])
  have lt := h.lt
  refine ⟨h.cx.grown hg (nx _ (by omega) (by omega)), h.fx.grown (by omega) hg (nx _ (by omega) (by omega)), h.cy.grown hg (nx _ (by omega) (by omega)), h.co.grown hg (nx _ (by omega) (by omega)), h.fo.grown lt hg (nx _ (by omega) (by omega)), ⟨owns_grown h.own.1 hg ?_, owns_grown h.own.2.1 hg ?_, own, h.own.2.2.2.1, (apart_new hat h.own.2.2.2.2.1.symm (fun g e => (h.own.1.lt g e).2)).symm, (apart_new hat h.own.2.2.2.2.2.symm (fun g e => (h.own.2.1.lt g e).2)).symm⟩,
    h.oA, h.oB, fun b h1 h2 => off_new hat (h.oL b h1 h2) (by omega), h.bx, Nat.lt_of_lt_of_le lt hg.size, h.x0, h.iA, h.iB, h.iL.new hat (by omega), h.bel.grown hg (by have := h.bx; omega) (fun k hk => (h.own.2.2.1.lt k hk).1) h.x0 h.iL⟩
  · exact fun g hg => h.own.2.2.2.2.1.symm g hg
  · exact fun g hg => h.own.2.2.2.2.2.symm g hg
/-- a bead is set in place -/
theorem HS.setB2 {g : Nat} (h : HS W0 O base x e l o s A (some ⟨g, 0, none⟩) L c d q W) {i : Nat} (hi : i < s.bs.length) (a v : Pt) :
    HS W0 O base x e l o { s with bs := s.bs.set i (a, v) } A (some ⟨g, 0, none⟩) L c d q ((W.setCell ⟨g, i * 2, none⟩ (.complex .f32 a.1 a.2)).setCell ⟨g, i * 2 + 1, none⟩ (.complex .f32 v.1 v.2)) := by
  have ho := ((h.own.2.1.stored (i * 2) (.complex .f32 a.1 a.2)).1.stored (i * 2 + 1) (.complex .f32 v.1 v.2)).1
  rw [← flat_setBd hi] at ho
  have e1 : (s.bs.set i (a, v)).length = s.bs.length := by simp
  rw [← e1] at ho
  exact h.growB (grown_set (grown_set (World.grownBy.refl _ _) _ _) _ _) ho (.inl rfl)
/-- a bead's speed is set in place -/
theorem HS.setV {g : Nat} (h : HS W0 O base x e l o s A (some ⟨g, 0, none⟩) L c d q W) {i : Nat} {a v : Pt} (hx : s.bs[i]? = some (a, v)) (y : Pt) :
    HS W0 O base x e l o { s with bs := s.bs.set i (a, y) } A (some ⟨g, 0, none⟩) L c d q (W.setCell ⟨g, i * 2 + 1, none⟩ (.complex .f32 y.1 y.2)) := by
  have hi := (List.getElem?_eq_some_iff.1 hx).1
  have ho := (h.own.2.1.stored (i * 2 + 1) (.complex .f32 y.1 y.2)).1
  have e0 : (flat bdC s.bs).set (i * 2 + 1) (.complex .f32 y.1 y.2) = flat bdC (s.bs.set i (a, y)) := by
    rw [flat_setBd hi]
    congr 1
    have := flat_get bdC_len s.bs i (a, v) hx 0 _ rfl
    rw [Nat.add_zero] at this
    exact (set_same this).symm
  rw [e0] at ho
  have e1 : (s.bs.set i (a, y)).length = s.bs.length := by simp
  rw [← e1] at ho
  exact h.growB (grown_set (World.grownBy.refl _ _) _ _) ho (.inl rfl)
/-- the beads lie in a new row -/
theorem HS.newB (h : HS W0 O base x e l o s A B L c d q W) (hb : Below W.heap.size W W') {bs : List Bd} {B' : Option Addr} {n d' : Nat} (own : W'.ownsRow W.heap.size 103 2 (.slice B' n d') n (flat bdC bs)) (hn : n = bs.length) :
    HS W0 O base x e l o { s with bs := bs } A B' L c d' q W' := by
  subst hn
  have lt := h.lt
  have k := h.below_ hb
  have bx := h.bx
  have nA : Apart (.slice A s.sh.length c) (.slice B' bs.length d') := fun g e e' => by have := (h.own.1.lt g e).2; have := (own.lt g e').1; omega
  have nL : Apart (.slice B' bs.length d') (.slice L s.log.length q) := fun g e e' => by have := (h.own.2.2.1.lt g e').2; have := (own.lt g e).1; omega
  exact ⟨k.cx, k.fx, k.cy, k.co, k.fo, ⟨k.own.1, owns_mono own (by omega), k.own.2.2.1, nA, k.own.2.2.2.2.1, nL⟩, k.oA, fun b h1 h2 e => by have := (own.lt b e).1; omega, k.oL, k.bx, k.lt, k.x0, k.iA, fun g e => .inr (by have := (own.lt g e).1; omega), k.iL, k.bel⟩
theorem HS.delA {g i : Nat} (h : HS W0 O base x e l o s (some ⟨g, 0, none⟩) B L c d q W) (hi : i < s.sh.length) (own : W'.ownsRow base 43 7 (.slice (some ⟨g, 0, none⟩) (s.sh.length - 1) c) (s.sh.length - 1) (flat shC (s.sh.eraseIdx i))) (hg : W.grownBy W' (some g)) :
    HS W0 O base x e l o { s with sh := s.sh.eraseIdx i } (some ⟨g, 0, none⟩) B L c d q W' := by
  rw [← List.length_eraseIdx_of_lt hi] at own
  exact h.growA hg own (.inl rfl)
theorem HS.delB {g i : Nat} (h : HS W0 O base x e l o s A (some ⟨g, 0, none⟩) L c d q W) (hi : i < s.bs.length) (own : W'.ownsRow base 103 2 (.slice (some ⟨g, 0, none⟩) (s.bs.length - 1) d) (s.bs.length - 1) (flat bdC (s.bs.eraseIdx i))) (hg : W.grownBy W' (some g)) :
    HS W0 O base x e l o { s with bs := s.bs.eraseIdx i } A (some ⟨g, 0, none⟩) L c d q W' := by
  rw [← List.length_eraseIdx_of_lt hi] at own
  exact h.growB hg own (.inl rfl)
theorem HS.appL (h : HS W0 O base x e l o s A B L c d q W) (ob : Obj) (e' : Ev) {v1 : Value} (hown : W'.ownsRow base 45 13 v1 (s.log.length + 1) (flat evC s.log ++ evC e')) (hg : (W.alloc ob).grownBy W' (Value.slice L s.log.length q).ownBlock)
    (hat : v1.ownBlock = (Value.slice L s.log.length q).ownBlock ∨ v1.ownBlock = some (W.alloc ob).heap.size) : ∃ L1 q1, v1 = .slice L1 (s.log.length + 1) q1 ∧ HS W0 O base x e l o { s with log := s.log ++ [e'] } A B L1 c d q1 W' := by
  obtain ⟨L1, q1, rfl⟩ := owns_slice hown
  have e1 : (s.log ++ [e']).length = s.log.length + 1 := by simp
  have e2 : flat evC s.log ++ evC e' = flat evC (s.log ++ [e']) := by rw [flat_append, flat_cons, flat_nil, List.append_nil]
  rw [e2, ← e1] at hown
  rw [← e1] at hat
  exact ⟨L1, q1, rfl, (h.alloc_ ob).growL hg hown hat⟩
theorem HS.appA (h : HS W0 O base x e l o s A B L c d q W) (ob : Obj) (y : Sh) {v1 : Value} (hown : W'.ownsRow base 43 7 v1 (s.sh.length + 1) (flat shC s.sh ++ shC y)) (hg : (W.alloc ob).grownBy W' (Value.slice A s.sh.length c).ownBlock)
    (hat : v1.ownBlock = (Value.slice A s.sh.length c).ownBlock ∨ v1.ownBlock = some (W.alloc ob).heap.size) : ∃ A1 c1, v1 = .slice A1 (s.sh.length + 1) c1 ∧ HS W0 O base x e l o { s with sh := s.sh ++ [y] } A1 B L c1 d q W' := by
  obtain ⟨A1, c1, rfl⟩ := owns_slice hown
  have e1 : (s.sh ++ [y]).length = s.sh.length + 1 := by simp
  have e2 : flat shC s.sh ++ shC y = flat shC (s.sh ++ [y]) := by rw [flat_append, flat_cons, flat_nil, List.append_nil]
  rw [e2, ← e1] at hown
  rw [← e1] at hat
  exact ⟨A1, c1, rfl, (h.alloc_ ob).growA hg hown hat⟩
theorem HS.appB (h : HS W0 O base x e l o s A B L c d q W) (ob : Obj) (y : Bd) {v1 : Value} (hown : W'.ownsRow base 103 2 v1 (s.bs.length + 1) (flat bdC s.bs ++ bdC y)) (hg : (W.alloc ob).grownBy W' (Value.slice B s.bs.length d).ownBlock)
    (hat : v1.ownBlock = (Value.slice B s.bs.length d).ownBlock ∨ v1.ownBlock = some (W.alloc ob).heap.size) : ∃ B1 d1, v1 = .slice B1 (s.bs.length + 1) d1 ∧ HS W0 O base x e l o { s with bs := s.bs ++ [y] } A B1 L c d1 q W' := by
  obtain ⟨B1, d1, rfl⟩ := owns_slice hown
  have e1 : (s.bs ++ [y]).length = s.bs.length + 1 := by simp
  have e2 : flat bdC s.bs ++ bdC y = flat bdC (s.bs ++ [y]) := by rw [flat_append, flat_cons, flat_nil, List.append_nil]
  rw [e2, ← e1] at hown
  rw [← e1] at hat
  exact ⟨B1, d1, rfl, (h.alloc_ ob).growB hg hown hat⟩
end

theorem waitS_succ {s u : Shw} {k : Nat} (h : waitS s k = some u) (hg : allGo u.gr u.bs = true) : waitS s (k + 1) = some (tickS u) := by
  show (match waitS s k with | some t => if allGo t.gr t.bs then some (tickS t) else none | none => none) = _
  rw [h]
  dsimp only
  rw [if_pos hg]
theorem waitS_stop {s u : Shw} {k : Nat} (h : waitS s k = some u) (hg : allGo u.gr u.bs = false) : ∀ j, waitS s (k + 1 + j) = none
  | 0 => by
    show (match waitS s k with | some t => if allGo t.gr t.bs then some (tickS t) else none | none => none) = _
    rw [h]
    dsimp only
    rw [hg]
    rfl
  | j + 1 => by
    show (match waitS s (k + 1 + j) with | some t => if allGo t.gr t.bs then some (tickS t) else none | none => none) = _
    rw [waitS_stop h hg j]
theorem waitS_no {s u : Shw} {k i : Nat} (h : waitS s k = some u) (hg : allGo u.gr u.bs = false) (hi : k < i) : waitS s i = none := by
  obtain ⟨j, rfl⟩ : ∃ j, i = k + 1 + j := ⟨i - (k + 1), by omega⟩
  exact waitS_stop h hg j
/-- its rows are old ones, or not older than x -/
def InS (O : Nat → Prop) (x : Nat) (s : Shw) (A B L : Option Addr) (c d q : Nat) : Prop := InO O x (.slice A s.sh.length c) ∧ InO O x (.slice B s.bs.length d) ∧ InO O x (.slice L s.log.length q)
/-- what happen answers, and what it leaves -/
def HapI (s : Shw) (e : Ev) (base : Nat) (O : Nat → Prop) (x : Nat) (r : Ending) (w' : World) : Prop :=
  (∀ t, hap s e = some t → ∃ A B L c d q, r = .returned (.tuple #[.agg #[.int .i64 (logged t e).sz, .float .f32 (logged t e).st, .float .f32 (logged t e).li.1, .float .f32 (logged t e).li.2.1, .float .f32 (logged t e).li.2.2, .slice A (logged t e).sh.length c, .int .i64 (logged t e).mir, .complex .f32 (logged t e).gr.1 (logged t e).gr.2, .float .f32 (logged t e).loss, .slice B (logged t e).bs.length d, .int .i64 (logged t e).tk, .slice L (logged t e).log.length q], .bool true]) ∧ OwnS w' base (logged t e) A B L c d q ∧ InS O x (logged t e) A B L c d q) ∧
  (hap s e = none → ∃ (s' : Shw) (A B L : Option Addr) (n c m d p q : Nat), r = .returned (.tuple #[.agg #[.int .i64 s'.sz, .float .f32 s'.st, .float .f32 s'.li.1, .float .f32 s'.li.2.1, .float .f32 s'.li.2.2, .slice A n c, .int .i64 s'.mir, .complex .f32 s'.gr.1 s'.gr.2, .float .f32 s'.loss, .slice B m d, .int .i64 s'.tk, .slice L p q], .bool false]))
theorem hapI_yes {s t : Shw} {e : Ev} {base x : Nat} {O : Nat → Prop} {v : Value} {w' : World} (ht : hap s e = some t) {A B L : Option Addr} {c d q : Nat} (own : OwnS w' base (logged t e) A B L c d q) (hin : InS O x (logged t e) A B L c d q)
    (hv : v = .tuple #[.agg #[.int .i64 t.sz, .float .f32 t.st, .float .f32 t.li.1, .float .f32 t.li.2.1, .float .f32 t.li.2.2, .slice A t.sh.length c, .int .i64 t.mir, .complex .f32 t.gr.1 t.gr.2, .float .f32 t.loss, .slice B t.bs.length d, .int .i64 t.tk, .slice L (t.log.length + 1) q], .bool true]) : HapI s e base O x (.returned v) w' := by
  refine ⟨fun t' ht' => ?_, fun hn => ?_⟩
  · rw [ht] at ht'
    injection ht' with ht'
    subst ht'
    refine ⟨A, B, L, c, d, q, ?_, own, hin⟩
    rw [hv]
    simp [logged]
  · rw [ht] at hn
    cases hn
theorem hapI_no {s s' : Shw} {e : Ev} {base x : Nat} {O : Nat → Prop} {v : Value} {w' : World} (ht : hap s e = none) {A B L : Option Addr} {n c m d p q : Nat} (hv : v = .tuple #[.agg #[.int .i64 s'.sz, .float .f32 s'.st, .float .f32 s'.li.1, .float .f32 s'.li.2.1, .float .f32 s'.li.2.2, .slice A n c, .int .i64 s'.mir, .complex .f32 s'.gr.1 s'.gr.2, .float .f32 s'.loss, .slice B m d, .int .i64 s'.tk, .slice L p q], .bool false]) : HapI s e base O x (.returned v) w' := by
  refine ⟨fun t' ht' => ?_, fun _ => ⟨s', A, B, L, n, c, m, d, p, q, by rw [hv]⟩⟩
  rw [ht] at ht'
  cases ht'
end Go.Proofs.Ytoafldgngbaddaa
