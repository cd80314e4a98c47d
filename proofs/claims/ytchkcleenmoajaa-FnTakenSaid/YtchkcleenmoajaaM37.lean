/- Run · TumL · TumS · TumA · SideL · Small · SeenC · Run2 · TumR -/
import Derived.Test.YtchkcleenmoajaaTick
import Derived.Test.YtchkcleenmoajaaFltN
import Derived.Test.YtchkcleenmoajaaGeoI
import Derived.Test.YtchkcleenmoajaaM30
import Derived.Test.YtchkcleenmoajaaM20
import Derived.Test.YtchkcleenmoajaaM34

/- run, RunTumble: the program's. -/
namespace Go.Proofs.Ytchkcleenmoajaa
open Go.RowKit
attribute [local go_sem] run_store_float run_store_complex

def addF (c : Int) (f : Bool) : Int := if f then c + 1 else c
/-- k ticks: the beads, and how often each was folded -/
def runUp (mir : Int) (gr : Pt) (loss : Nat) (bs : List Bd) : Nat → Option (List Bd × List Int)
  | 0 => some (bs, List.replicate bs.length 0)
  | k + 1 => match runUp mir gr loss bs k with
    | some (b, c) => if allGo gr b then some (goL mir gr loss b, List.zipWith addF c (goF mir gr loss b)) else none
    | none => none
theorem runUp_yes {mir : Int} {gr : Pt} {loss : Nat} {bs b : List Bd} {c : List Int} {k : Nat} (h : runUp mir gr loss bs k = some (b, c)) (hg : allGo gr b = true) : runUp mir gr loss bs (k + 1) = some (goL mir gr loss b, List.zipWith addF c (goF mir gr loss b)) := by
  unfold runUp; rw [h]; simp [hg]
theorem runUp_no {mir : Int} {gr : Pt} {loss : Nat} {bs b : List Bd} {c : List Int} {k : Nat} (h : runUp mir gr loss bs k = some (b, c)) (hg : allGo gr b = false) : runUp mir gr loss bs (k + 1) = none := by
  unfold runUp; rw [h]; simp [hg]
theorem runUp_none {mir : Int} {gr : Pt} {loss : Nat} {bs : List Bd} {k : Nat} (h : runUp mir gr loss bs k = none) : ∀ j, runUp mir gr loss bs (k + j) = none
  | 0 => h
  | j + 1 => by
    have ih := runUp_none h j
    show runUp mir gr loss bs (k + j + 1) = none
    unfold runUp; rw [ih]
theorem runUp_len {mir : Int} {gr : Pt} {loss : Nat} {bs : List Bd} : ∀ {k : Nat} {b : List Bd} {c : List Int}, runUp mir gr loss bs k = some (b, c) → b.length = bs.length ∧ c.length = bs.length
  | 0, b, c, h => by
    unfold runUp at h
    injection h with h
    injection h with h1 h2
    subst h1 h2
    simp
  | k + 1, b, c, h => by
    cases hk : runUp mir gr loss bs k with
    | none => unfold runUp at h; rw [hk] at h; cases h
    | some r =>
      obtain ⟨b', c'⟩ := r
      have ih := runUp_len hk
      unfold runUp at h
      rw [hk] at h
      simp only at h
      split at h
      · injection h with h
        injection h with h1 h2
        subst h1 h2
        simp [goL, goF, ih.1, ih.2]
      · cases h
def runOk (mir : Int) (gr : Pt) (loss : Nat) (bs : List Bd) (N : Int) : Option (List Bd × List Int) := if tumB mir gr loss bs && inB N 0 64 then runUp mir gr loss bs N.toNat else none
theorem infoIntR : (Try.prog.info? 3).map (fun i => (i.zero, i.size, i.bytes)) = some (some (.int .i64 0), 1, 8) := by kernel_rfl
theorem flat_zeros (n : Nat) : (madeCells #[.int .i64 0] n).toList = flat intC (List.replicate n 0) := by
  apply List.ext_getElem?
  intro j
  by_cases hj : j < n
  · have h1 := flat_get intC_len (List.replicate n 0) j 0 (by simp [hj]) 0 (.int .i64 0) rfl
    rw [Nat.mul_one, Nat.add_zero] at h1
    rw [h1]
    have hr : (Array.range n)[j]? = some j := by simp [hj]
    rw [madeCells, Array.getElem?_toList, Array.getElem?_map, hr]
    simp [Nat.mod_one]
  · rw [List.getElem?_eq_none (by simp [madeCells]; omega), List.getElem?_eq_none (by rw [flat_length intC_len, List.length_replicate]; omega)]
theorem own_zeros {base n : Nat} (W : World) (hb : base ≤ W.heap.size) (hn : n ≤ maxLen) :
    (W.alloc (.cells (madeCells #[.int .i64 0] n) 3)).ownsRow base 3 1 (.slice (some ⟨W.heap.size, 0, none⟩) n n) n (flat intC (List.replicate n 0)) := by
  rw [← flat_zeros]
  exact World.ownsRow_lit W _ n hb hn (by simp [madeCells])

theorem flat_setI {ys : List Int} : ∀ {i : Nat}, i < ys.length → ∀ (x : Int), flat intC (ys.set i x) = (flat intC ys).set i (.int .i64 x) := by
  induction ys with
  | nil => intro i h; simp at h
  | cons y ys ih =>
    intro i h x
    cases i with
    | zero => rfl
    | succ i =>
      rw [List.set_cons_succ, flat_cons, flat_cons, ih (by simpa using h)]
      rfl
theorem mixL_at {α : Type} {ys xs : List α} {k : Nat} (h : ys.length = xs.length) (hk : k < xs.length) : (mixL ys xs k)[k]? = xs[k]? := by
  unfold mixL
  have ht : (ys.take k).length = k := by rw [List.length_take]; omega
  rw [List.getElem?_append_right (by omega), ht, Nat.sub_self, List.getElem?_drop, Nat.add_zero]
theorem runUp_bd {mir : Int} {gr : Pt} {loss : Nat} {bs : List Bd} : ∀ {k : Nat} {b : List Bd} {c : List Int}, runUp mir gr loss bs k = some (b, c) → ∀ (i : Nat) x, c[i]? = some x → 0 ≤ x ∧ x ≤ (k : Int)
  | 0, b, c, h, i, x, hx => by
    unfold runUp at h
    injection h with h
    injection h with h1 h2
    subst h1 h2
    rw [List.getElem?_replicate] at hx
    split at hx
    · injection hx with hx; subst hx; simp
    · cases hx
  | k + 1, b, c, h, i, x, hx => by
    cases hk : runUp mir gr loss bs k with
    | none => unfold runUp at h; rw [hk] at h; cases h
    | some r =>
      obtain ⟨b', c'⟩ := r
      have ih := runUp_bd hk
      unfold runUp at h
      rw [hk] at h
      simp only at h
      split at h
      · injection h with h
        injection h with h1 h2
        subst h1 h2
        rw [List.getElem?_zipWith] at hx
        cases h3 : c'[i]? with
        | none => rw [h3] at hx; cases hx
        | some y =>
          cases h4 : (goF mir gr loss b')[i]? with
          | none => rw [h3, h4] at hx; cases hx
          | some f =>
            rw [h3, h4] at hx
            simp at hx
            have := ih i y h3
            subst hx
            unfold addF
            split <;> omega
      · cases h
theorem Rd.bo {w : World} {B : Nat} {A : Option Addr} {n k : Nat} {xs : List Bool} (h : Rd boC 1 w B A n xs) (hk : k < n) :
    ∃ b off x, A = some ⟨b, off, none⟩ ∧ b < B ∧ xs[k]? = some x ∧ w.cell? ⟨b, off + k, none⟩ = some (.bool x) := by
  obtain ⟨b, off, x, e, hb, hx, hc⟩ := h.at_ hk
  have := hc 0 _ rfl
  rw [Nat.mul_one, Nat.add_zero] at this
  exact ⟨b, off, x, e, hb, hx, this⟩

end Go.Proofs.Ytchkcleenmoajaa

/- Plain laws on tumbles: symmetries on keys; a tick keeps a tumble valid; ticks in parts. -/
namespace Go.Proofs.Ytchkcleenmoajaa
open Go.RowKit

def keyP (p : Pt) : Int × Int := (key p.1, key p.2)
def finP (p : Pt) : Prop := finB p.1 = true ∧ finB p.2 = true
theorem rotB_key {p : Pt} (h : finP p) : keyP (rotB p) = rI (keyP p) ∧ finP (rotB p) := by
  obtain ⟨h1, h2⟩ := h
  obtain ⟨a, b⟩ := neg_key h2
  exact ⟨by unfold rotB keyP rI; rw [a], b, h1⟩
theorem rotN_key {p : Pt} (h : finP p) : ∀ n, keyP (rotN n p) = rIN n (keyP p) ∧ finP (rotN n p)
  | 0 => ⟨rfl, h⟩
  | n + 1 => by
    obtain ⟨a, b⟩ := rotN_key h n
    obtain ⟨c, d⟩ := rotB_key b
    exact ⟨by show keyP (rotB (rotN n p)) = rI (rIN n (keyP p)); rw [c, a], d⟩
theorem flip_key {f : Bool} {y : Nat} (h : finB y = true) : key (flipB f y) = (if f then -key y else key y) ∧ finB (flipB f y) = true := by
  cases f
  · exact ⟨rfl, h⟩
  · exact neg_key h
theorem actI_key {t : Int} {f : Bool} {re im : Nat} (h : finP (re, im)) : keyP (actI t f re im) = aI t f (keyP (re, im)) ∧ finP (actI t f re im) := by
  obtain ⟨h1, h2⟩ := h
  obtain ⟨a, b⟩ := flip_key (f := f) h2
  obtain ⟨c, d1, d2⟩ := rotN_key (p := (re, flipB f im)) ⟨h1, b⟩ t.toNat
  obtain ⟨e1, e2⟩ := clean_key d1
  obtain ⟨g1, g2⟩ := clean_key d2
  refine ⟨?_, e2, g2⟩
  show (key _, key _) = _
  unfold actI
  dsimp only
  rw [e1, g1]
  show keyP (rotN t.toNat (re, flipB f im)) = _
  rw [c]
  unfold aI keyP
  dsimp only
  rw [a]
theorem point_fin {p : Pt} (h : pointB p.1 p.2 = true) : finP p := by
  unfold pointB at h
  rw [Bool.and_eq_true] at h
  exact ⟨reach_fin h.1, reach_fin h.2⟩
theorem point_key {p : Pt} (h : finP p) : pointB p.1 p.2 = true ↔ Sm 1166016512 (keyP p) := by
  unfold pointB
  rw [Bool.and_eq_true, reach_key h.1, reach_key h.2, decide_eq_true_eq, decide_eq_true_eq]
  unfold Sm keyP
  dsimp only
  omega
theorem actP_point (t : Int) (f : Bool) (re im : Nat) : pointB (actP t f re im).1 (actP t f re im).2 = true := by
  unfold actP
  split
  · rename_i h
    rw [Bool.and_eq_true] at h
    have hf := point_fin (p := (re, im)) h.2
    obtain ⟨a, b⟩ := actI_key (t := t) (f := f) hf
    rw [point_key b, a]
    exact aI_sm ((point_key hf).1 h.2) _ _
  · decide +kernel

theorem foldP_wedge {kind : Int} (hk : inB kind 0 3 = true) (z : Pt) : wedgeB kind (foldP kind z).1 = true := by
  have h0 : wedgeB kind (0, 0) = true := by
    obtain ⟨k1, k2⟩ := inB_true hk
    have hc : kind = 0 ∨ kind = 1 ∨ kind = 2 ∨ kind = 3 := by omega
    rcases hc with rfl | rfl | rfl | rfl <;> decide +kernel
  unfold foldP
  split
  · unfold foldG
    split
    · rename_i g hg
      have := List.find?_some hg
      exact this
    · exact h0
  · exact h0
theorem slow_point {loss : Nat} {s : Pt} (hl : partB loss = true) (hs : pointB s.1 s.2 = true) : pointB (slow loss s).1 (slow loss s).2 = true := by
  obtain ⟨f1, f2⟩ := point_fin hs
  obtain ⟨a1, a2⟩ := mul_key f1 (one_sub hl)
  obtain ⟨b1, b2⟩ := mul_key f2 (one_sub hl)
  unfold pointB at hs ⊢
  rw [Bool.and_eq_true, reach_key f1, reach_key f2, decide_eq_true_eq, decide_eq_true_eq] at hs
  unfold slow
  dsimp only
  rw [Bool.and_eq_true, reach_key a1, reach_key b1, decide_eq_true_eq, decide_eq_true_eq]
  omega
theorem goBd_ok {mir : Int} {gr : Pt} {loss : Nat} {b : Bd} (hm : inB mir 0 3 = true) (hl : partB loss = true) : okBd mir (goBd mir gr loss b).1 = true := by
  unfold goBd
  dsimp only
  split
  · unfold okBd
    rw [Bool.and_eq_true]
    exact ⟨foldP_wedge hm _, actP_point _ _ _ _⟩
  · unfold okBd
    rw [Bool.and_eq_true]
    exact ⟨foldP_wedge hm _, slow_point hl (actP_point _ _ _ _)⟩
theorem tumB_parts {mir : Int} {gr : Pt} {loss : Nat} {bs : List Bd} : tumB mir gr loss bs = true ↔ inB mir 0 3 = true ∧ pointB gr.1 gr.2 = true ∧ partB loss = true ∧ bs.length ≤ 8 ∧ bs.all (okBd mir) = true := by
  unfold tumB
  simp only [Bool.and_eq_true, decide_eq_true_eq]
theorem goL_tum {mir : Int} {gr : Pt} {loss : Nat} {bs : List Bd} (h : tumB mir gr loss bs = true) : tumB mir gr loss (goL mir gr loss bs) = true := by
  rw [tumB_parts] at h ⊢
  obtain ⟨h1, h2, h3, h4, h5⟩ := h
  refine ⟨h1, h2, h3, by simpa [goL] using h4, ?_⟩
  rw [List.all_eq_true]
  intro x hx
  unfold goL at hx
  obtain ⟨b, _, rfl⟩ := List.mem_map.1 hx
  exact goBd_ok h1 h3
theorem runUp_tum {mir : Int} {gr : Pt} {loss : Nat} {bs : List Bd} (h : tumB mir gr loss bs = true) : ∀ {k : Nat} {b : List Bd} {c : List Int}, runUp mir gr loss bs k = some (b, c) → tumB mir gr loss b = true
  | 0, b, c, e => by
    unfold runUp at e
    injection e with e
    injection e with e1 e2
    rw [← e1]; exact h
  | k + 1, b, c, e => by
    cases hk : runUp mir gr loss bs k with
    | none => unfold runUp at e; rw [hk] at e; cases e
    | some r =>
      obtain ⟨b', c'⟩ := r
      have ih := runUp_tum h hk
      unfold runUp at e
      rw [hk] at e
      simp only at e
      split at e
      · injection e with e
        injection e with e1 e2
        rw [← e1]; exact goL_tum ih
      · cases e
theorem zip_zeros {c : List Int} {n : Nat} (h : c.length = n) : List.zipWith (· + ·) c (List.replicate n (0 : Int)) = c := by
  apply List.ext_getElem
  · simp [h]
  · intro i h1 h2
    simp
theorem zip_addF {c c' : List Int} {f : List Bool} : List.zipWith addF (List.zipWith (· + ·) c c') f = List.zipWith (· + ·) c (List.zipWith addF c' f) := by
  apply List.ext_getElem
  · simp [Nat.min_assoc]
  · intro i h1 h2
    simp only [List.getElem_zipWith]
    unfold addF
    split <;> omega
/-- ticks in two parts -/
theorem runUp_add {mir : Int} {gr : Pt} {loss : Nat} {bs b : List Bd} {c : List Int} {j : Nat} (h : runUp mir gr loss bs j = some (b, c)) : ∀ k, runUp mir gr loss bs (j + k) = match runUp mir gr loss b k with
    | some (b', c') => some (b', List.zipWith (· + ·) c c')
    | none => none
  | 0 => by
    have hl := runUp_len h
    have e : runUp mir gr loss b 0 = some (b, List.replicate b.length 0) := rfl
    show runUp mir gr loss bs j = _
    rw [h, e]
    dsimp only
    rw [zip_zeros (by omega)]
  | k + 1 => by
    have ih := runUp_add h k
    cases hk : runUp mir gr loss b k with
    | none =>
      rw [hk] at ih
      have e1 : runUp mir gr loss bs (j + (k + 1)) = none := runUp_none ih 1
      have e2 : runUp mir gr loss b (k + 1) = none := runUp_none hk 1
      rw [e1, e2]
    | some r =>
      obtain ⟨b', c'⟩ := r
      rw [hk] at ih
      cases hg : allGo gr b'
      · have e1 : runUp mir gr loss bs (j + (k + 1)) = none := runUp_no ih hg
        have e2 : runUp mir gr loss b (k + 1) = none := runUp_no hk hg
        rw [e1, e2]
      · have e1 : runUp mir gr loss bs (j + (k + 1)) = _ := runUp_yes ih hg
        have e2 : runUp mir gr loss b (k + 1) = _ := runUp_yes hk hg
        rw [e1, e2]
        dsimp only
        rw [zip_addF]
end Go.Proofs.Ytchkcleenmoajaa

/- FoldPoint of the specification: its place lies in the wedge. Plain. -/
namespace Go.Proofs.Ytchkcleenmoajaa
open Go.RowKit

theorem actS_key {t : Int} {f : Bool} {re im : Nat} (h : finP (re, im)) : keyP (actS t f re im) = aI t f (keyP (re, im)) ∧ finP (actS t f re im) := by
  obtain ⟨h1, h2⟩ := h
  obtain ⟨x1, x2, _⟩ := add_key h1
  obtain ⟨y1, y2, _⟩ := add_key h2
  obtain ⟨a, b⟩ := flip_key (f := f) y2
  obtain ⟨c, d⟩ := rotN_key (p := (addB re 0, flipB f (addB im 0))) ⟨x2, b⟩ t.toNat
  refine ⟨?_, d⟩
  unfold actS
  rw [c]
  unfold aI keyP
  dsimp only
  rw [a, x1, y1]
theorem sideS_eq {kind : Int} {p : Pt} (h : finP p) : sideS kind p = sideB kind p := by
  unfold sideS sideB
  rw [ge_le h.2 (show finB 0 = true by decide)]
theorem foldS_wedge {kind : Int} (hk : inB kind 0 3 = true) (z : Pt) : wedgeB kind (foldS kind z).1 = true := by
  have h0 : wedgeB kind (0, 0) = true := by
    obtain ⟨k1, k2⟩ := inB_true hk
    have hc : kind = 0 ∨ kind = 1 ∨ kind = 2 ∨ kind = 3 := by omega
    rcases hc with rfl | rfl | rfl | rfl <;> decide +kernel
  unfold foldS
  split
  · rename_i hp
    unfold foldH
    split
    · rename_i g hg
      have h1 := List.find?_some hg
      have hf := point_fin hp
      obtain ⟨a, b⟩ := actS_key (t := g.1) (f := g.2) (re := z.1) (im := z.2) hf
      have h2 : pointB (actS g.1 g.2 z.1 z.2).1 (actS g.1 g.2 z.1 z.2).2 = true := by
        rw [point_key b, a]
        exact aI_sm ((point_key hf).1 hp) _ _
      unfold wedgeB
      rw [Bool.and_eq_true]
      refine ⟨h2, ?_⟩
      dsimp only
      rw [← sideS_eq b]
      exact h1
    · exact h0
  · exact h0
end Go.Proofs.Ytchkcleenmoajaa

/- Plain laws on tumbles, by keys: sums and symmetries, the fold of both versions, one bead's tick. -/
namespace Go.Proofs.Ytchkcleenmoajaa
open Go.RowKit

def cwP (p : Pt) : Prop := cw p.1 ∧ cw p.2
theorem cwP_fin {p : Pt} (h : cwP p) : finP p := ⟨h.1.1, h.2.1⟩
theorem cwP_ext {p q : Pt} (hp : cwP p) (hq : cwP q) (h : keyP p = keyP q) : p = q := by
  unfold keyP at h
  injection h with h1 h2
  exact Prod.ext (cw_ext hp.1 hq.1 h1) (cw_ext hp.2 hq.2 h2)
theorem plus_cw {p q : Pt} (hp : finP p) (hq : finP q) : cwP (plusP p q) := ⟨addB_cw hp.1 hq.1, addB_cw hp.2 hq.2⟩
def plusZ (a b : Int × Int) : Int × Int := (key (addK a.1 b.1), key (addK a.2 b.2))
theorem plus_keys {p q : Pt} (hp : finP p) (hq : finP q) : keyP (plusP p q) = plusZ (keyP p) (keyP q) := by
  unfold keyP plusP plusZ
  dsimp only
  rw [add_keys hp.1 hq.1, add_keys hp.2 hq.2]
theorem plusZ_rI (a b : Int × Int) : plusZ (rI a) (rI b) = rI (plusZ a b) := by
  unfold plusZ rI
  dsimp only
  rw [addK_neg]
theorem plusZ_rIN (a b : Int × Int) : ∀ n, plusZ (rIN n a) (rIN n b) = rIN n (plusZ a b)
  | 0 => rfl
  | n + 1 => by show plusZ (rI (rIN n a)) (rI (rIN n b)) = rI (rIN n _); rw [plusZ_rI, plusZ_rIN a b n]
theorem plusZ_aI (t : Int) (f : Bool) (a b : Int × Int) : plusZ (aI t f a) (aI t f b) = aI t f (plusZ a b) := by
  unfold aI
  rw [plusZ_rIN]
  cases f
  · rfl
  · unfold plusZ; simp only [if_true]; rw [addK_neg]
theorem rotB_cw {p : Pt} (h : cwP p) : cwP (rotB p) := ⟨neg_cw h.2.1, h.1⟩
theorem rotN_cw {p : Pt} (h : cwP p) : ∀ n, cwP (rotN n p)
  | 0 => h
  | n + 1 => rotB_cw (rotN_cw h n)
theorem flip_cw {f : Bool} {y : Nat} (h : cw y) : cw (flipB f y) := by
  cases f
  · exact h
  · exact neg_cw h.1
theorem actI_cw {t : Int} {f : Bool} {re im : Nat} (h : cwP (re, im)) : cwP (actI t f re im) := by
  have hr := rotN_cw (p := (re, flipB f im)) ⟨h.1, flip_cw h.2⟩ t.toNat
  exact ⟨cleanB_cw hr.1.1 (cw_lt hr.1), cleanB_cw hr.2.1 (cw_lt hr.2)⟩
theorem actS_cw {t : Int} {f : Bool} {re im : Nat} (h : finP (re, im)) : cwP (actS t f re im) :=
  rotN_cw (p := (addB re 0, flipB f (addB im 0))) ⟨(add_key h.1).2.2, flip_cw (add_key h.2).2.2⟩ t.toNat
theorem actS_actI {t : Int} {f : Bool} {re im : Nat} (h : cwP (re, im)) : actS t f re im = actI t f re im :=
  cwP_ext (actS_cw (cwP_fin h)) (actI_cw h) (by rw [(actS_key (cwP_fin h)).1, (actI_key (cwP_fin h)).1])
theorem actP_yes {t : Int} {f : Bool} {re im : Nat} (ht : inB t 0 3 = true) (h : pointB re im = true) : actP t f re im = actI t f re im := by
  unfold actP
  rw [ht, h]; rfl

/-- the wedge on integers -/
def sideI (kind : Int) (p : Int × Int) : Bool := if kind = 0 then true else if kind = 1 then decide (0 ≤ p.2) else if kind = 2 then decide (0 ≤ p.1) && decide (0 ≤ p.2) else if kind = 3 then decide (0 ≤ p.2) && decide (p.2 ≤ p.1) else false
theorem f0 : finB 0 = true := by decide
theorem k0 : key 0 = 0 := by decide
theorem sideB_key {kind : Int} {p : Pt} (h : finP p) : sideB kind p = sideI kind (keyP p) := by
  unfold sideB sideI keyP
  rw [ge_le h.1 f0, ge_le h.2 f0, leB_fin f0 h.2, leB_fin h.2 h.1, leB_fin f0 h.1, k0]
theorem syms0 : symsL 0 = [(0, false)] := by decide
theorem syms1 : symsL 1 = [(0, false), (0, true)] := by decide
theorem syms2 : symsL 2 = [(0, false), (2, false), (0, true), (2, true)] := by decide
theorem syms3 : symsL 3 = [(0, false), (1, false), (2, false), (3, false), (0, true), (1, true), (2, true), (3, true)] := by decide
theorem kinds {kind : Int} (hk : inB kind 0 3 = true) : kind = 0 ∨ kind = 1 ∨ kind = 2 ∨ kind = 3 := by
  obtain ⟨k1, k2⟩ := inB_true hk
  omega
theorem a00 (x y : Int) : aI 0 false (x, y) = (x, y) := rfl
theorem a10 (x y : Int) : aI 1 false (x, y) = (-y, x) := rfl
theorem a20 (x y : Int) : aI 2 false (x, y) = (-x, -y) := rfl
theorem a30 (x y : Int) : aI 3 false (x, y) = (-(-y), -x) := rfl
theorem a01 (x y : Int) : aI 0 true (x, y) = (x, -y) := rfl
theorem a11 (x y : Int) : aI 1 true (x, y) = (-(-y), x) := rfl
theorem a21 (x y : Int) : aI 2 true (x, y) = (-x, -(-y)) := rfl
theorem a31 (x y : Int) : aI 3 true (x, y) = (-(-(-y)), -x) := rfl
theorem side1 {a b : Int} (h : 0 ≤ b) : sideI 1 (a, b) = true := by simp [sideI, h]
theorem side2 {a b : Int} (h : 0 ≤ a) (h2 : 0 ≤ b) : sideI 2 (a, b) = true := by simp [sideI, h, h2]
theorem side3 {a b : Int} (h : 0 ≤ b) (h2 : b ≤ a) : sideI 3 (a, b) = true := by simp [sideI, h, h2]
theorem hitI {kind : Int} (hk : inB kind 0 3 = true) (p : Int × Int) : ∃ g ∈ symsL kind, sideI kind (aI g.1 g.2 p) = true := by
  obtain ⟨x, y⟩ := p
  rcases kinds hk with rfl | rfl | rfl | rfl
  · exact ⟨(0, false), by rw [syms0]; decide, rfl⟩
  · rw [syms1]
    by_cases h : 0 ≤ y
    · exact ⟨(0, false), by decide, side1 (a := x) (b := y) h⟩
    · exact ⟨(0, true), by decide, side1 (a := x) (b := -y) (by omega)⟩
  · rw [syms2]
    by_cases h : 0 ≤ y <;> by_cases h2 : 0 ≤ x
    · exact ⟨(0, false), by decide, side2 (a := x) (b := y) (by omega) (by omega)⟩
    · exact ⟨(2, true), by decide, side2 (a := -x) (b := -(-y)) (by omega) (by omega)⟩
    · exact ⟨(0, true), by decide, side2 (a := x) (b := -y) (by omega) (by omega)⟩
    · exact ⟨(2, false), by decide, side2 (a := -x) (b := -y) (by omega) (by omega)⟩
  · rw [syms3]
    by_cases h : 0 ≤ y <;> by_cases h2 : 0 ≤ x
    · by_cases h3 : y ≤ x
      · exact ⟨(0, false), by decide, side3 (a := x) (b := y) (by omega) (by omega)⟩
      · exact ⟨(1, true), by decide, side3 (a := -(-y)) (b := x) (by omega) (by omega)⟩
    · by_cases h3 : y ≤ -x
      · exact ⟨(2, true), by decide, side3 (a := -x) (b := -(-y)) (by omega) (by omega)⟩
      · exact ⟨(3, false), by decide, side3 (a := -(-y)) (b := -x) (by omega) (by omega)⟩
    · by_cases h3 : -y ≤ x
      · exact ⟨(0, true), by decide, side3 (a := x) (b := -y) (by omega) (by omega)⟩
      · exact ⟨(1, false), by decide, side3 (a := -y) (b := x) (by omega) (by omega)⟩
    · by_cases h3 : -y ≤ -x
      · exact ⟨(2, false), by decide, side3 (a := -x) (b := -y) (by omega) (by omega)⟩
      · exact ⟨(3, true), by decide, side3 (a := -(-(-y))) (b := -x) (by omega) (by omega)⟩
theorem wedge_key {kind t : Int} {f : Bool} {z : Pt} (ht : inB t 0 3 = true) (h : pointB z.1 z.2 = true) : wedgeB kind (actP t f z.1 z.2) = sideI kind (aI t f (keyP z)) := by
  obtain ⟨a, b⟩ := actI_key (t := t) (f := f) (re := z.1) (im := z.2) (point_fin h)
  unfold wedgeB
  rw [actP_point, Bool.true_and, actP_yes ht h, sideB_key b, a]
theorem sideS_key {kind t : Int} {f : Bool} {z : Pt} (h : pointB z.1 z.2 = true) : sideS kind (actS t f z.1 z.2) = sideI kind (aI t f (keyP z)) := by
  obtain ⟨a, b⟩ := actS_key (t := t) (f := f) (re := z.1) (im := z.2) (point_fin h)
  rw [sideS_eq b, sideB_key b, a]
/-- the fold of a point: the first symmetry that takes it into the wedge -/
def firstG (kind : Int) (p : Int × Int) : Option (Int × Bool) := (symsL kind).find? (fun g => sideI kind (aI g.1 g.2 p))
theorem firstG_some {kind : Int} (hk : inB kind 0 3 = true) (p : Int × Int) : ∃ g ∈ symsL kind, firstG kind p = some g ∧ sideI kind (aI g.1 g.2 p) = true := by
  obtain ⟨g, hg, hs⟩ := hitI hk p
  cases h : firstG kind p with
  | none =>
    have := List.find?_eq_none.1 h g hg
    rw [hs] at this; simp at this
  | some g' =>
    exact ⟨g', List.mem_of_find?_eq_some h, rfl, List.find?_some (p := fun g : Int × Bool => sideI kind (aI g.1 g.2 p)) h⟩
theorem find_congr {α : Type} {p q : α → Bool} : ∀ {l : List α}, (∀ x ∈ l, p x = q x) → l.find? p = l.find? q
  | [], _ => rfl
  | x :: l, h => by
    rw [List.find?_cons, List.find?_cons, h x (List.mem_cons_self ..), find_congr (fun y hy => h y (List.mem_cons_of_mem _ hy))]
theorem foldP_g {kind : Int} {z : Pt} {g : Int × Bool} (h : pointB z.1 z.2 = true) (hg : firstG kind (keyP z) = some g) : foldP kind z = (actP g.1 g.2 z.1 z.2, g, true) := by
  unfold foldP foldG
  rw [h, if_pos rfl]
  have : (symsL kind).find? (fun g => wedgeB kind (actP g.1 g.2 z.1 z.2)) = some g := by
    rw [← hg]
    exact find_congr (fun g hg => wedge_key (symsL_in g hg) h)
  rw [this]
theorem foldS_g {kind : Int} {z : Pt} {g : Int × Bool} (h : pointB z.1 z.2 = true) (hg : firstG kind (keyP z) = some g) : foldS kind z = (actS g.1 g.2 z.1 z.2, g, true) := by
  unfold foldS foldH
  rw [h, if_pos rfl]
  have : (symsL kind).find? (fun g => sideS kind (actS g.1 g.2 z.1 z.2)) = some g := by
    rw [← hg]
    exact find_congr (fun g hg => sideS_key h)
  rw [this]
theorem foldP_no {kind : Int} {z : Pt} (h : pointB z.1 z.2 = false) : foldP kind z = ((0, 0), (0, false), false) := by unfold foldP; rw [h]; rfl
theorem foldS_no {kind : Int} {z : Pt} (h : pointB z.1 z.2 = false) : foldS kind z = ((0, 0), (0, false), false) := by unfold foldS; rw [h]; rfl
/-- both versions fold a clean point alike, and know when it is possible -/
theorem fold_eq {kind : Int} {z : Pt} (hk : inB kind 0 3 = true) (hz : cwP z) : foldS kind z = foldP kind z ∧ (foldP kind z).2.2 = pointB z.1 z.2 ∧ inB (foldP kind z).2.1.1 0 3 = true := by
  cases h : pointB z.1 z.2
  · rw [foldS_no h, foldP_no h]; exact ⟨rfl, rfl, by decide⟩
  · obtain ⟨g, hm, hg, _⟩ := firstG_some hk (keyP z)
    rw [foldS_g h hg, foldP_g h hg, actP_yes (symsL_in g hm) h]
    refine ⟨?_, rfl, symsL_in g hm⟩
    rw [actS_actI (show cwP (z.1, z.2) from hz)]
/-- without mirrors nothing is folded -/
theorem foldP_none (z : Pt) : (foldP 0 z).2.1 = (0, false) := by
  cases h : pointB z.1 z.2
  · rw [foldP_no h]
  · have : firstG 0 (keyP z) = some (0, false) := by unfold firstG; rw [syms0]; rfl
    rw [foldP_g h this]
theorem goBd_none {gr : Pt} {loss : Nat} {b : Bd} : (goBd 0 gr loss b).2 = false := by
  unfold goBd
  dsimp only
  rw [if_pos (by rw [foldP_none]; rfl)]
end Go.Proofs.Ytchkcleenmoajaa

/- Sides of points and shards, by keys: plain. -/
namespace Go.Proofs.Ytchkcleenmoajaa
open Go.RowKit

abbrev Sh := Pt × Pt × Pt × Col × Nat
def shC (s : Sh) : List Value := [.complex .f32 s.1.1 s.1.2, .complex .f32 s.2.1.1 s.2.1.2, .complex .f32 s.2.2.1.1 s.2.2.1.2, .float .f32 s.2.2.2.1.1, .float .f32 s.2.2.2.1.2.1, .float .f32 s.2.2.2.1.2.2, .float .f32 s.2.2.2.2]
theorem shC_len (s : Sh) : (shC s).length = 7 := rfl
def okSh (s : Sh) : Bool := pointB s.1.1 s.1.2 && (pointB s.2.1.1 s.2.1.2 && (pointB s.2.2.1.1 s.2.2.1.2 && (colB s.2.2.2.1 && partB s.2.2.2.2)))
theorem okSh_parts {s : Sh} (h : okSh s = true) : pointB s.1.1 s.1.2 = true ∧ pointB s.2.1.1 s.2.1.2 = true ∧ pointB s.2.2.1.1 s.2.2.1.2 = true ∧ colB s.2.2.2.1 = true ∧ partB s.2.2.2.2 = true := by
  unfold okSh at h
  simp only [Bool.and_eq_true] at h
  exact h
def lessP (a b : Pt) : Pt := (subB a.1 b.1, subB a.2 b.2)
/-- the side of p beside the way from a to b -/
def sideN (a b p : Pt) : Nat := subB (mulB (lessP b a).1 (lessP p a).2) (mulB (lessP b a).2 (lessP p a).1)
def liesB (s : Sh) (p : Pt) : Bool :=
  (geB (sideN s.1 s.2.1 p) 0 && (geB (sideN s.2.1 s.2.2.1 p) 0 && geB (sideN s.2.2.1 s.1 p) 0)) || (leB (sideN s.1 s.2.1 p) 0 && (leB (sideN s.2.1 s.2.2.1 p) 0 && leB (sideN s.2.2.1 s.1 p) 0))
/-! ### by keys -/
def lessZ (a b : Int × Int) : Int × Int := (key (addK a.1 (-b.1)), key (addK a.2 (-b.2)))
def sideZ (a b p : Int × Int) : Int := key (addK (key (mulK (lessZ b a).1 (lessZ p a).2)) (-(key (mulK (lessZ b a).2 (lessZ p a).1))))
theorem less_keys {a b : Pt} (ha : finP a) (hb : finP b) : keyP (lessP a b) = lessZ (keyP a) (keyP b) ∧ finP (lessP a b) := by
  refine ⟨?_, (subB_cw ha.1 hb.1).1, (subB_cw ha.2 hb.2).1⟩
  unfold keyP lessP lessZ
  dsimp only
  rw [sub_keys ha.1 hb.1, sub_keys ha.2 hb.2]
theorem side_keys {a b p : Pt} (ha : finP a) (hb : finP b) (hp : finP p) : key (sideN a b p) = sideZ (keyP a) (keyP b) (keyP p) ∧ finB (sideN a b p) = true := by
  obtain ⟨d1, d2⟩ := less_keys hb ha
  obtain ⟨e1, e2⟩ := less_keys hp ha
  have m1 := mulB_cw d2.1 e2.2
  have m2 := mulB_cw d2.2 e2.1
  unfold sideN
  refine ⟨?_, (subB_cw m1.1 m2.1).1⟩
  unfold sideZ
  rw [sub_keys m1.1 m2.1, mul_keys d2.1 e2.2, mul_keys d2.2 e2.1, ← d1, ← e1]
  rfl
theorem lessZ_rI (a b : Int × Int) : lessZ (rI a) (rI b) = rI (lessZ a b) := by
  unfold lessZ rI
  dsimp only
  rw [addK_neg]
theorem sideZ_rI (a b p : Int × Int) : sideZ (rI a) (rI b) (rI p) = sideZ a b p := by
  unfold sideZ
  rw [lessZ_rI, lessZ_rI]
  unfold rI
  dsimp only
  rw [mulK_neg, mulK_neg', Int.neg_neg, addK_comm]
theorem sideZ_rIN (a b p : Int × Int) : ∀ n, sideZ (rIN n a) (rIN n b) (rIN n p) = sideZ a b p
  | 0 => rfl
  | n + 1 => by show sideZ (rI (rIN n a)) (rI (rIN n b)) (rI (rIN n p)) = _; rw [sideZ_rI, sideZ_rIN a b p n]
theorem lessZ_flip (a b : Int × Int) : lessZ (a.1, -a.2) (b.1, -b.2) = ((lessZ a b).1, -(lessZ a b).2) := by
  unfold lessZ
  dsimp only
  rw [addK_neg]
theorem sideZ_flip (a b p : Int × Int) : sideZ (a.1, -a.2) (b.1, -b.2) (p.1, -p.2) = -sideZ a b p := by
  unfold sideZ
  rw [lessZ_flip, lessZ_flip]
  dsimp only
  rw [mulK_neg', mulK_neg, ← addK_neg]
theorem sideZ_aI (t : Int) (f : Bool) (a b p : Int × Int) : sideZ (aI t f a) (aI t f b) (aI t f p) = if f then -sideZ a b p else sideZ a b p := by
  unfold aI
  rw [sideZ_rIN]
  cases f
  · rfl
  · simp only [if_true]; rw [sideZ_flip]
theorem ge_zero {x : Nat} (h : finB x = true) : geB x 0 = decide (0 ≤ key x) := by rw [ge_le h f0, leB_fin f0 h, k0]
theorem le_zero {x : Nat} (h : finB x = true) : leB x 0 = decide (key x ≤ 0) := by rw [leB_fin h f0, k0]
/-- turned glass lies where the turned point lies -/
theorem lies_turn {t : Int} {f : Bool} {s s' : Sh} {p p' : Pt} (h1 : finP s.1) (h2 : finP s.2.1) (h3 : finP s.2.2.1) (hp : finP p)
    (g1 : finP s'.1) (g2 : finP s'.2.1) (g3 : finP s'.2.2.1) (gp : finP p')
    (e1 : keyP s'.1 = aI t f (keyP s.1)) (e2 : keyP s'.2.1 = aI t f (keyP s.2.1)) (e3 : keyP s'.2.2.1 = aI t f (keyP s.2.2.1)) (ep : keyP p' = aI t f (keyP p)) : liesB s' p' = liesB s p := by
  obtain ⟨x1, x2⟩ := side_keys h1 h2 hp
  obtain ⟨y1, y2⟩ := side_keys h2 h3 hp
  obtain ⟨z1, z2⟩ := side_keys h3 h1 hp
  obtain ⟨u1, u2⟩ := side_keys g1 g2 gp
  obtain ⟨v1, v2⟩ := side_keys g2 g3 gp
  obtain ⟨w1, w2⟩ := side_keys g3 g1 gp
  rw [e1, e2, ep, sideZ_aI, ← x1] at u1
  rw [e2, e3, ep, sideZ_aI, ← y1] at v1
  rw [e3, e1, ep, sideZ_aI, ← z1] at w1
  unfold liesB
  rw [ge_zero x2, ge_zero y2, ge_zero z2, ge_zero u2, ge_zero v2, ge_zero w2, le_zero x2, le_zero y2, le_zero z2, le_zero u2, le_zero v2, le_zero w2]
  generalize key (sideN s.1 s.2.1 p) = a at *
  generalize key (sideN s.2.1 s.2.2.1 p) = b at *
  generalize key (sideN s.2.2.1 s.1 p) = c at *
  rw [u1, v1, w1]
  cases f
  · rfl
  · simp only [if_true]
    rw [Bool.eq_iff_iff]
    simp only [Bool.or_eq_true, Bool.and_eq_true, decide_eq_true_eq]
    omega

/-! ### colours -/
def mixN (x y k : Nat) : Nat := if gtB (addB (mulB x (subB 1065353216 k)) (mulB y k)) 1065353216 then 1065353216 else addB (mulB x (subB 1065353216 k)) (mulB y k)
def mixC (a b : Col) (k : Nat) : Col := (mixN a.1 b.1 k, mixN a.2.1 b.2.1 k, mixN a.2.2 b.2.2 k)
def filtC (a b : Col) : Col := (mulB a.1 b.1, mulB a.2.1 b.2.1, mulB a.2.2 b.2.2)
/-- light behind shards -/
def seenL (l : List Sh) (p : Pt) (light : Col) : Col := l.foldl (fun c s => if liesB s p then mixC (filtC c s.2.2.2.1) c s.2.2.2.2 else c) light
theorem colB_parts {c : Col} (h : colB c = true) : partB c.1 = true ∧ partB c.2.1 = true ∧ partB c.2.2 = true := by
  unfold colB at h
  simp only [Bool.and_eq_true] at h
  exact h
theorem seen_turn {t : Int} {f : Bool} {p p' : Pt} (hp : finP p) (gp : finP p') (ep : keyP p' = aI t f (keyP p)) : ∀ (l l' : List Sh), l'.length = l.length →
    (∀ (i : Nat) s s', l[i]? = some s → l'[i]? = some s' → (finP s.1 ∧ finP s.2.1 ∧ finP s.2.2.1) ∧ (finP s'.1 ∧ finP s'.2.1 ∧ finP s'.2.2.1) ∧ keyP s'.1 = aI t f (keyP s.1) ∧ keyP s'.2.1 = aI t f (keyP s.2.1) ∧ keyP s'.2.2.1 = aI t f (keyP s.2.2.1) ∧ s'.2.2.2 = s.2.2.2) →
    ∀ light, seenL l' p' light = seenL l p light
  | [], [], _, _, _ => rfl
  | [], _ :: _, h, _, _ => by simp at h
  | _ :: _, [], h, _, _ => by simp at h
  | s :: l, s' :: l', h, hall, light => by
    obtain ⟨⟨a1, a2, a3⟩, ⟨b1, b2, b3⟩, c1, c2, c3, c4⟩ := hall 0 s s' rfl rfl
    have hl := lies_turn a1 a2 a3 hp b1 b2 b3 gp c1 c2 c3 ep
    unfold seenL
    rw [List.foldl_cons, List.foldl_cons, hl, c4]
    exact seen_turn hp gp ep l l' (by simpa using h) (fun i x x' hx hx' => hall (i + 1) x x' hx hx') _
end Go.Proofs.Ytchkcleenmoajaa

/- Words of nothing or more; parts and colours. No program. -/
namespace Go.Proofs.Ytchkcleenmoajaa
open Go.RowKit Ieee

/-! ### energy -/
def small (x : Nat) : Prop := x < 2139095040
theorem small_fin {x : Nat} (h : small x) : finB x = true ∧ 0 ≤ key x := by
  unfold small at h
  refine ⟨by unfold finB; rw [Nat.mod_eq_of_lt (by omega)]; simpa using h, ?_⟩
  rw [key_nn (by omega)]; omega
theorem square_small {x : Nat} (h : finB x = true) : small (mulB x x) := by
  obtain ⟨m, u, ex, _, _, _⟩ := read_rung h
  have e : mulB x x = match single.mul x x with | some r => cleanB r | none => 0 := rfl
  rw [e]
  unfold Format.mul
  rw [ex]
  simp only [Datum.product, Option.map_some, Format.write, Bool.xor_self]
  exact cleanB_nn (nearest_nn _ _)
theorem bring_nn {k : Int} (h : 0 ≤ k) (e : Nat) : 0 ≤ bring k e := by
  unfold bring
  rw [if_neg (by omega)]
  exact Int.natCast_nonneg _
theorem sum_small {x y : Nat} (hx : small x) (hy : small y) : small (addB x y) := by
  obtain ⟨a1, a2⟩ := small_fin hx
  obtain ⟨b1, b2⟩ := small_fin hy
  rw [add_keys a1 b1]
  unfold addK
  split
  · show (0 : Nat) < 2139095040; omega
  · have h1 := bring_nn a2 (lowU (key x) (key y))
    have h2 := bring_nn b2 (lowU (key x) (key y))
    have hd : decide (allS (key x) (key y) < 0) = false := by unfold allS; simp; omega
    rw [hd, word_false]
    exact cleanB_nn (nearest_nn _ _)
theorem small_ge {x : Nat} (h : small x) : geB x 0 = true := by
  obtain ⟨h1, h2⟩ := small_fin h
  rw [ge_le h1 f0, leB_fin f0 h1, k0]
  simpa using h2

theorem small_mul {x y : Nat} (hx : finB x = true) (hy : finB y = true) (kx : 0 ≤ key x) (ky : 0 ≤ key y) : small (mulB x y) := by
  rw [mul_keys hx hy]
  unfold mulK
  split
  · show (0 : Nat) < 2139095040; omega
  · have h1 : decide (key x < 0) = false := by simp; omega
    have h2 : decide (key y < 0) = false := by simp; omega
    have h3 : (false != false) = false := rfl
    rw [h1, h2, h3, word_false]
    exact cleanB_nn (nearest_nn _ _)
theorem part_iff {x : Nat} : partB x = true ↔ finB x = true ∧ 0 ≤ key x ∧ key x ≤ 1065353216 := by
  have f1 : finB 1065353216 = true := by decide
  have k1 : key 1065353216 = 1065353216 := by decide
  constructor
  · intro h
    have hf := part_fin h
    unfold partB at h
    rw [ge_le hf f0, leB_fin f0 hf, leB_fin hf f1, k0, k1] at h
    simp only [Bool.and_eq_true, decide_eq_true_eq] at h
    exact ⟨hf, h.1, h.2⟩
  · rintro ⟨hf, h1, h2⟩
    unfold partB
    rw [ge_le hf f0, leB_fin f0 hf, leB_fin hf f1, k0, k1]
    simp only [Bool.and_eq_true, decide_eq_true_eq]
    exact ⟨h1, h2⟩
theorem part_mul {x y : Nat} (hx : partB x = true) (hy : partB y = true) : partB (mulB x y) = true := by
  obtain ⟨a1, a2, a3⟩ := part_iff.1 hx
  obtain ⟨b1, b2, b3⟩ := part_iff.1 hy
  obtain ⟨c1, c2⟩ := small_fin (small_mul a1 b1 a2 b2)
  obtain ⟨_, d2⟩ := mul_key a1 hy
  exact part_iff.2 ⟨c1, c2, by omega⟩
theorem part_clamp {z : Nat} (h : small z) : partB (if gtB z 1065353216 then 1065353216 else z) = true := by
  have f1 : finB 1065353216 = true := by decide
  have k1 : key 1065353216 = 1065353216 := by decide
  obtain ⟨a1, a2⟩ := small_fin h
  rw [gtB_fin a1 f1, k1]
  split
  · decide +kernel
  · rename_i h1
    simp only [decide_eq_true_eq] at h1
    exact part_iff.2 ⟨a1, a2, by omega⟩
end Go.Proofs.Ytchkcleenmoajaa

/- Light behind glass is a colour: plain. -/
namespace Go.Proofs.Ytchkcleenmoajaa
open Go.RowKit

theorem part_mix {x y k : Nat} (hx : partB x = true) (hy : partB y = true) (hk : partB k = true) : partB (mixN x y k) = true := by
  have hk' := one_sub hk
  obtain ⟨a1, a2, _⟩ := part_iff.1 hx
  obtain ⟨b1, b2, _⟩ := part_iff.1 hy
  obtain ⟨c1, c2, _⟩ := part_iff.1 hk
  obtain ⟨d1, d2, _⟩ := part_iff.1 hk'
  unfold mixN
  exact part_clamp (sum_small (small_mul a1 d1 a2 d2) (small_mul b1 c1 b2 c2))
theorem colB_of {a b c : Nat} (h1 : partB a = true) (h2 : partB b = true) (h3 : partB c = true) : colB (a, b, c) = true := by
  unfold colB; rw [h1, h2, h3]; rfl
theorem mixC_col {a b : Col} {k : Nat} (ha : colB a = true) (hb : colB b = true) (hk : partB k = true) : colB (mixC a b k) = true := by
  obtain ⟨a1, a2, a3⟩ := colB_parts ha
  obtain ⟨b1, b2, b3⟩ := colB_parts hb
  exact colB_of (part_mix a1 b1 hk) (part_mix a2 b2 hk) (part_mix a3 b3 hk)
theorem filtC_col {a b : Col} (ha : colB a = true) (hb : colB b = true) : colB (filtC a b) = true := by
  obtain ⟨a1, a2, a3⟩ := colB_parts ha
  obtain ⟨b1, b2, b3⟩ := colB_parts hb
  exact colB_of (part_mul a1 b1) (part_mul a2 b2) (part_mul a3 b3)
theorem seen_col : ∀ {l : List Sh}, l.all okSh = true → ∀ {p : Pt} {c : Col}, colB c = true → colB (seenL l p c) = true
  | [], _, _, _, h => h
  | s :: l, hl, p, c, h => by
    rw [List.all_cons, Bool.and_eq_true] at hl
    obtain ⟨_, _, _, h4, h5⟩ := okSh_parts hl.1
    unfold seenL
    rw [List.foldl_cons]
    refine seen_col hl.2 ?_
    split
    · exact mixC_col (filtC_col h h4) h h5
    · exact h
theorem seenL_append (l : List Sh) (s : Sh) (p : Pt) (c : Col) : seenL (l ++ [s]) p c = if liesB s p then mixC (filtC (seenL l p c) s.2.2.2.1) (seenL l p c) s.2.2.2.2 else seenL l p c := by
  unfold seenL
  rw [List.foldl_append]
  rfl
end Go.Proofs.Ytchkcleenmoajaa

/- RunTumble, BouncesOf: the program's. -/
namespace Go.Proofs.Ytchkcleenmoajaa
open Go.RowKit
attribute [local go_sem] run_store_float run_store_complex

def BouncePost (mir : Int) (gr : Pt) (loss : Nat) (n : Nat) (bs : List Bd) (N : Int) (base : Nat) (e : Ending) (w' : World) : Prop :=
  (∀ b c, runOk mir gr loss bs N = some (b, c) → ∃ F m, e = .returned (.tuple #[.slice F n m, .bool true]) ∧ w'.ownsRow base 3 1 (.slice F n m) n (flat intC c)) ∧
  (runOk mir gr loss bs N = none → e = .returned (.tuple #[.slice none 0 0, .bool false]))

end Go.Proofs.Ytchkcleenmoajaa

/- RunTumble of a valid tumble: what it gives; plain facts for the laws on tumbles; big. -/
namespace Go.Proofs.Ytchkcleenmoajaa
open Go.RowKit
attribute [local go_sem] run_store_float run_store_complex

theorem bigT_any (A : Option Addr) (m c : Nat) (w : World) :
    Calls Try.prog 5 #[.slice A m c] w fun e w' => e = .returned (.bool (decide ((4096 : Int) < m))) ∧ w = w' := by
  go_enter Try.func5, Try.ntmps5
  go_wp2
  go_ret
  exact ⟨rfl, rfl⟩

def runB (mir : Int) (gr : Pt) (loss : Nat) (bs : List Bd) (k : Nat) : List Bd := match runUp mir gr loss bs k with
  | some (b, _) => b
  | none => bs
def runS (mir : Int) (gr : Pt) (loss : Nat) (bs : List Bd) (k : Nat) : Bool := (runUp mir gr loss bs k).isSome
theorem runB_len (mir : Int) (gr : Pt) (loss : Nat) (bs : List Bd) (k : Nat) : (runB mir gr loss bs k).length = bs.length := by
  unfold runB
  split
  · rename_i b c h; exact (runUp_len h).1
  · rfl
theorem runB_tum {mir : Int} {gr : Pt} {loss : Nat} {bs : List Bd} (h : tumB mir gr loss bs = true) (k : Nat) : tumB mir gr loss (runB mir gr loss bs k) = true := by
  unfold runB
  split
  · rename_i b c hk; exact runUp_tum h hk
  · exact h
theorem runB_no {mir : Int} {gr : Pt} {loss : Nat} {bs : List Bd} {k : Nat} (h : runS mir gr loss bs k = false) : runB mir gr loss bs k = bs := by
  unfold runS at h
  unfold runB
  split
  · rename_i b c hk; rw [hk] at h; cases h
  · rfl
/-- ticks in two parts -/
theorem runS_split {mir : Int} {gr : Pt} {loss : Nat} {bs : List Bd} {k n : Nat} (hk : k ≤ n) :
    (runS mir gr loss bs k = false → runS mir gr loss bs n = false) ∧
    (runS mir gr loss bs k = true → runS mir gr loss bs n = runS mir gr loss (runB mir gr loss bs k) (n - k) ∧ (runS mir gr loss bs n = true → runB mir gr loss bs n = runB mir gr loss (runB mir gr loss bs k) (n - k))) := by
  obtain ⟨j, rfl⟩ : ∃ j, n = k + j := ⟨n - k, by omega⟩
  have ej : k + j - k = j := by omega
  rw [ej]
  unfold runS runB
  cases h : runUp mir gr loss bs k with
  | none =>
    have hj := runUp_none h j
    simp [hj]
  | some r =>
    obtain ⟨b, c⟩ := r
    refine ⟨fun h => (by cases h), fun _ => ?_⟩
    rw [runUp_add h j]
    cases hj : runUp mir gr loss b j with
    | none => simp
    | some r => simp
theorem runOk_up {mir : Int} {gr : Pt} {loss : Nat} {bs : List Bd} (ht : tumB mir gr loss bs = true) {N : Nat} (hN : N ≤ 64) : runOk mir gr loss bs (N : Int) = runUp mir gr loss bs N := by
  unfold runOk
  have h : inB (N : Int) 0 64 = true := by unfold inB; simp; omega
  rw [ht, h]
  rfl
/-- a tumble's box -/
def BoxT (w : World) (b : Nat) (mir : Int) (gr : Pt) (loss : Nat) (s : Value) : Prop :=
  w.cell? ⟨b, 0, none⟩ = some (.int .i64 mir) ∧ w.cell? ⟨b, 1, none⟩ = some (.complex .f32 gr.1 gr.2) ∧ w.cell? ⟨b, 2, none⟩ = some (.float .f32 loss) ∧ w.cell? ⟨b, 3, none⟩ = some s
theorem BoxT.keep {w w' : World} {b : Nat} {mir : Int} {gr : Pt} {loss : Nat} {s : Value} (h : BoxT w b mir gr loss s) (hb : Below w.heap.size w w') : BoxT w' b mir gr loss s :=
  ⟨keepC h.1 hb, keepC h.2.1 hb, keepC h.2.2.1 hb, keepC h.2.2.2 hb⟩
theorem BoxT.lt {w : World} {b : Nat} {mir : Int} {gr : Pt} {loss : Nat} {s : Value} (h : BoxT w b mir gr loss s) : b < w.heap.size := World.block_lt_of_cell? _ _ h.1
theorem boxT_new (w : World) (mir : Int) (gr : Pt) (loss : Nat) (s : Value) (t : TypeId) : BoxT (w.alloc (Obj.cells #[.int .i64 mir, .complex .f32 gr.1 gr.2, .float .f32 loss, s] t)) w.heap.size mir gr loss s :=
  ⟨by simp [go_sem], by simp [go_sem], by simp [go_sem], by simp [go_sem]⟩
theorem eqB_self {x : Nat} (h : finB x = true) : eqB x x = true := by rw [eqB_fin h h]; simp
theorem cxE_self {p : Pt} (h : finP p) : cxE p p = true := by unfold cxE; rw [eqB_self h.1, eqB_self h.2]; rfl
theorem ok_fin {mir : Int} {b : Bd} (h : okBd mir b = true) : finP b.1 ∧ finP b.2 := by
  unfold okBd wedgeB at h
  rw [Bool.and_eq_true, Bool.and_eq_true] at h
  exact ⟨point_fin h.1.1, point_fin h.2⟩
theorem bdE_self {mir : Int} {b : Bd} (h : okBd mir b = true) : bdE b b = true := by
  unfold bdE
  rw [cxE_self (ok_fin h).1, cxE_self (ok_fin h).2]; rfl
theorem tum_same {mir : Int} {gr : Pt} {loss : Nat} {bs : List Bd} (h : tumB mir gr loss bs = true) : cxE gr gr = true ∧ eqB loss loss = true ∧ ∀ (i : Nat) x y, bs[i]? = some x → bs[i]? = some y → bdE x y = true := by
  rw [tumB_parts] at h
  obtain ⟨_, h2, h3, _, h5⟩ := h
  refine ⟨cxE_self (point_fin h2), eqB_self (part_fin h3), fun i x y hx hy => ?_⟩
  rw [hx] at hy
  injection hy with hy
  subst hy
  exact bdE_self (List.all_eq_true.1 h5 x (List.mem_of_getElem? hx))
end Go.Proofs.Ytchkcleenmoajaa
