/- TakeL · TakenL -/
import Derived.Test.YtchkcleenmoajaaTake
import Derived.Test.YtchkcleenmoajaaDrawTk
import Derived.Test.YtchkcleenmoajaaActSh
import Derived.Test.YtchkcleenmoajaaM34
import Derived.Test.YtchkcleenmoajaaTumT
import Derived.Test.YtchkcleenmoajaaInvL
import Derived.Test.YtchkcleenmoajaaDrawPic

/- Pictures taken of turned glass: plain, by keys. -/
namespace Go.Proofs.Ytchkcleenmoajaa
open Go.RowKit

def stepsOk : Bool := stepsL.all fun st => finB st && (stpB st && (List.range 17).all fun k => reachB (mulB (fl ((k : Int) - 8)) st))
theorem stepsOk_true : stepsOk = true := by decide +kernel
theorem step_facts {st : Nat} (h : st ∈ stepsL) : finB st = true ∧ stpB st = true ∧ ∀ n : Int, -8 ≤ n → n ≤ 8 → reachB (mulB (fl n) st) = true := by
  have h1 := List.all_eq_true.1 stepsOk_true st h
  simp only [Bool.and_eq_true] at h1
  refine ⟨h1.1, h1.2.1, fun n n1 n2 => ?_⟩
  have h2 := List.all_eq_true.1 h1.2.2 (n + 8).toNat (List.mem_range.2 (by omega))
  have e : (((n + 8).toNat : Nat) : Int) - 8 = n := by omega
  rw [e] at h2
  exact h2
theorem fl_key {n : Int} (h1 : -8 ≤ n) (h2 : n ≤ 8) : key (fl (-n)) = -key (fl n) ∧ finB (fl n) = true := by
  obtain ⟨a1, _, _, a4, _⟩ := small_at n h1 h2
  have hf := reach_fin a4
  rw [← a1]
  exact ⟨(neg_key hf).1, hf⟩
def scaleZ (st : Nat) (p : Int × Int) : Int × Int := (key (mulK (key (fl p.1)) (key st)), key (mulK (key (fl p.2)) (key st)))
theorem scale_rI {st : Nat} {p : Int × Int} (h : Sm 8 p) : scaleZ st (rI p) = rI (scaleZ st p) := by
  obtain ⟨a, b, c, d⟩ := h
  unfold scaleZ rI
  dsimp only
  rw [(fl_key c d).1, mulK_neg]
theorem scale_rIN {st : Nat} {p : Int × Int} (h : Sm 8 p) : ∀ n, scaleZ st (rIN n p) = rIN n (scaleZ st p)
  | 0 => rfl
  | n + 1 => by show scaleZ st (rI (rIN n p)) = rI (rIN n _); rw [scale_rI (rIN_sm h n), scale_rIN h n]
theorem scale_aI {st : Nat} {p : Int × Int} (h : Sm 8 p) (t : Int) (f : Bool) : scaleZ st (aI t f p) = aI t f (scaleZ st p) := by
  unfold aI
  cases f
  · exact scale_rIN h _
  · simp only [if_true]
    obtain ⟨a, b, c, d⟩ := h
    rw [scale_rIN (p := (p.1, -p.2)) ⟨a, b, by dsimp only; omega, by dsimp only; omega⟩]
    unfold scaleZ
    dsimp only
    rw [(fl_key c d).1, mulK_neg]
theorem spot_facts {st : Nat} {s i : Int} (hst : st ∈ stepsL) (hc : okCell s i = true) : keyP (spotP st s i) = scaleZ st (ptI s i) ∧ pointB (spotP st s i).1 (spotP st s i).2 = true := by
  obtain ⟨s1, s2, _⟩ := okCell_bd hc
  obtain ⟨a, b, c, d⟩ := (ptI_sm hc).mono (c := 8) (by omega)
  obtain ⟨h1, _, h3⟩ := step_facts hst
  refine ⟨?_, ?_⟩
  · unfold keyP spotP scaleZ
    dsimp only
    rw [mul_keys (fl_key a b).2 h1, mul_keys (fl_key c d).2 h1]
  · unfold pointB spotP
    dsimp only
    rw [h3 _ a b, h3 _ c d]; rfl
/-- without mirrors a spot stays -/
theorem fold0_key {z : Pt} (h : pointB z.1 z.2 = true) : keyP (foldP 0 z).1 = keyP z ∧ finP (foldP 0 z).1 := by
  have hf : firstG 0 (keyP z) = some (0, false) := by unfold firstG; rw [syms0]; rfl
  rw [foldP_g h hf]
  exact actP_same h
theorem act_fin {t : Int} {f : Bool} {p : Pt} (ht : inB t 0 3 = true) (h : pointB p.1 p.2 = true) : keyP (actP t f p.1 p.2) = aI t f (keyP p) ∧ finP (actP t f p.1 p.2) := actP_key ht h
theorem take_turn {t : Int} {f : Bool} {q k st : Nat} {ls : List Sh} {light : Col} (ht : inB t 0 3 = true) (hq : q < 8) (hk : k < (q + 1) * (q + 1)) (hst : st ∈ stepsL) (hok : ls.all okSh = true) :
    takeC 0 ((q : Int) + 1) st (ls.map (actSh t f)) light (toN q k (t, f)) = takeC 0 ((q : Int) + 1) st ls light k := by
  obtain ⟨g, hg, e⟩ := sym_num (f := f) ht
  obtain ⟨c1, c2, _⟩ := cells_all q k g hq hk hg
  rw [e] at c1 c2
  dsimp only at c1 c2
  have c0 := okCell_of q k hq hk
  have hn := (toN_ok (q := q) (k := k) (g := (t, f)) hq hk ht).1
  dsimp only at hn
  rw [hn] at c1 c2
  obtain ⟨k1, k2⟩ := spot_facts hst c0
  obtain ⟨k3, k4⟩ := spot_facts hst c1
  obtain ⟨f1, f2⟩ := fold0_key k2
  obtain ⟨f3, f4⟩ := fold0_key k4
  have hsm := (ptI_sm c0).mono (c := 8) (by have := (okCell_bd c0).2.1; omega)
  have ek : keyP (foldP 0 (spotP st ((q : Int) + 1) (toN q k (t, f) : Nat))).1 = aI t f (keyP (foldP 0 (spotP st ((q : Int) + 1) k)).1) := by
    rw [f3, f1, k3, k1, c2, scale_aI hsm]
  unfold takeC
  refine seen_turn f2 f4 ek ls (ls.map (actSh t f)) (by simp) (fun i s s' hs hs' => ?_) light
  rw [List.getElem?_map, hs] at hs'
  injection hs' with hs'
  subst hs'
  obtain ⟨o1, o2, o3, _, _⟩ := okSh_parts (List.all_eq_true.1 hok s (List.mem_of_getElem? hs))
  obtain ⟨x1, x2⟩ := act_fin (f := f) ht o1
  obtain ⟨y1, y2⟩ := act_fin (f := f) ht o2
  obtain ⟨z1, z2⟩ := act_fin (f := f) ht o3
  exact ⟨⟨point_fin o1, point_fin o2, point_fin o3⟩, ⟨x2, y2, z2⟩, x1, y1, z1, rfl⟩
theorem actSh_ok {t : Int} {f : Bool} {s : Sh} (h : okSh s = true) : okSh (actSh t f s) = true := by
  obtain ⟨_, _, _, h4, h5⟩ := okSh_parts h
  unfold okSh actSh
  dsimp only
  rw [actP_point, actP_point, actP_point, h4, h5]; rfl
theorem turned_ok {t : Int} {f : Bool} {ls : List Sh} (h : ls.all okSh = true) : (ls.map (actSh t f)).all okSh = true := by
  rw [List.all_eq_true] at h ⊢
  intro x hx
  obtain ⟨s, hs, rfl⟩ := List.mem_map.1 hx
  exact actSh_ok (h s hs)
theorem take_pic {kind : Int} {q st : Nat} {ls : List Sh} {light : Col} (hq : q < 8) (hok : ls.all okSh = true) (hc : colB light = true) : Pic q (takeUp kind ((q : Int) + 1) st ls light ((q + 1) * (q + 1))) := by
  refine ⟨hq, takeUp_len _ _ _ _ _ _, ?_⟩
  rw [List.all_eq_true]
  intro x hx
  unfold takeUp at hx
  obtain ⟨i, _, rfl⟩ := List.mem_map.1 hx
  exact seen_col hok hc
theorem takeUp_at {kind s : Int} {st : Nat} {ls : List Sh} {light : Col} {N k : Nat} (hk : k < N) : (takeUp kind s st ls light N)[k]? = some (takeC kind s st ls light k) := by
  unfold takeUp
  rw [List.getElem?_map, List.getElem?_range hk]
  rfl
/-- what FnTurnedGlass asks -/
theorem turned_same {t : Int} {f : Bool} {q st : Nat} {ls : List Sh} {light : Col} (ht : inB t 0 3 = true) (hq : q < 8) (hst : st ∈ stepsL) (hok : ls.all okSh = true) (hc : colB light = true) :
    sameP ((q : Int) + 1) (takeUp 0 ((q : Int) + 1) st (ls.map (actSh t f)) light ((q + 1) * (q + 1))) (actL t f ((q : Int) + 1) (takeUp 0 ((q : Int) + 1) st ls light ((q + 1) * (q + 1)))).1 (actL t f ((q : Int) + 1) (takeUp 0 ((q : Int) + 1) st ls light ((q + 1) * (q + 1)))).2 = true := by
  have hp := take_pic (kind := 0) (st := st) hq hok hc
  have hp' := take_pic (kind := 0) (st := st) hq (turned_ok (t := t) (f := f) hok) hc
  obtain ⟨a1, a2⟩ := act_pic (g := (t, f)) hp ht
  dsimp only at a1 a2
  rw [a2]
  refine (sameP_iff hp'.2.2 a1.2.2 (by rw [hp'.2.1, a1.2.1])).2 (fun k hk => ?_)
  rw [takeUp_len] at hk
  obtain ⟨j, hj, e1, e2⟩ := act_at' (g := (t, f)) hp ht (k := k) (by rw [takeUp_len]; exact hk)
  rw [takeUp_len] at hj
  dsimp only at e2
  unfold atK
  rw [e2, takeUp_at hk, takeUp_at hj, ← e1, take_turn ht hq hj hst hok]
end Go.Proofs.Ytchkcleenmoajaa

/- A picture taken between mirrors has the symmetries of the mirrors: plain, by keys. -/
namespace Go.Proofs.Ytchkcleenmoajaa
open Go.RowKit

/-- the spot, folded, is the same for all cells that the mirrors show -/
theorem fold_same {kind : Int} (hk : inB kind 0 3 = true) {z z' : Pt} (hz : pointB z.1 z.2 = true) (hz' : pointB z'.1 z'.2 = true) {g : Int × Bool} (hg : g ∈ symsL kind) (h : keyP z' = aI g.1 g.2 (keyP z)) :
    keyP (foldP kind z').1 = keyP (foldP kind z).1 ∧ finP (foldP kind z).1 ∧ finP (foldP kind z').1 := by
  obtain ⟨a, ha, fa, sa⟩ := firstG_some hk (keyP z)
  obtain ⟨b, hb, fb, sb⟩ := firstG_some hk (keyP z')
  rw [foldP_g hz fa, foldP_g hz' fb]
  dsimp only
  obtain ⟨k1, k2⟩ := actP_key (f := a.2) (symsL_in a ha) hz
  obtain ⟨k3, k4⟩ := actP_key (f := b.2) (symsL_in b hb) hz'
  refine ⟨?_, k2, k4⟩
  rw [k1, k3]
  refine inv_side hk sb sa ?_ (inv_step hk ha (inv_refl hk (keyP z)))
  rw [h]
  exact inv_step hk hb (inv_step hk hg (inv_refl hk (keyP z)))
theorem take_sym {kind q k st : Nat} {g : Int × Bool} {ls : List Sh} {light : Col} (hk4 : kind < 4) (hg : g ∈ symsL (kind : Int)) (hq : q < 8) (hk : k < (q + 1) * (q + 1)) (hst : st ∈ stepsL) (hok : ls.all okSh = true) :
    takeC (kind : Int) ((q : Int) + 1) st ls light (toN q k g) = takeC (kind : Int) ((q : Int) + 1) st ls light k := by
  have hki : inB (kind : Int) 0 3 = true := by unfold inB; simp; omega
  obtain ⟨t, f⟩ := g
  have ht : inB t 0 3 = true := symsL_in (t, f) hg
  obtain ⟨n, hn8, e⟩ := sym_num (f := f) ht
  obtain ⟨c1, c2, _⟩ := cells_all q k n hq hk hn8
  rw [e] at c1 c2
  dsimp only at c1 c2
  have c0 := okCell_of q k hq hk
  have hn := (toN_ok (q := q) (k := k) (g := (t, f)) hq hk ht).1
  dsimp only at hn
  rw [hn] at c1 c2
  obtain ⟨k1, k2⟩ := spot_facts hst c0
  obtain ⟨k3, k4⟩ := spot_facts hst c1
  have hsm := (ptI_sm c0).mono (c := 8) (by have := (okCell_bd c0).2.1; omega)
  obtain ⟨e1, e2, e3⟩ := fold_same hki k2 k4 hg (by rw [k3, k1, c2, scale_aI hsm])
  unfold takeC
  refine seen_turn (t := 0) (f := false) e2 e3 (by rw [e1]; rfl) ls ls rfl (fun i s s' hs hs' => ?_) light
  rw [hs] at hs'
  injection hs' with hs'
  subst hs'
  obtain ⟨o1, o2, o3, _, _⟩ := okSh_parts (List.all_eq_true.1 hok s (List.mem_of_getElem? hs))
  exact ⟨⟨point_fin o1, point_fin o2, point_fin o3⟩, ⟨point_fin o1, point_fin o2, point_fin o3⟩, rfl, rfl, rfl, rfl⟩
/-- what a picture taken between mirrors of a kind is -/
def TakenP (kind q : Nat) (xs : List Col) : Prop := Pic q xs ∧ ∀ k, k < (q + 1) * (q + 1) → ∀ g ∈ symsL (kind : Int), atK xs (toN q k g) = atK xs k
theorem taken_p {kind q st : Nat} {ls : List Sh} {light : Col} (hk4 : kind < 4) (hq : q < 8) (hst : st ∈ stepsL) (hok : ls.all okSh = true) (hc : colB light = true) :
    TakenP kind q (takeUp (kind : Int) ((q : Int) + 1) st ls light ((q + 1) * (q + 1))) := by
  refine ⟨take_pic hq hok hc, fun k hk g hg => ?_⟩
  have ht : inB g.1 0 3 = true := symsL_in g hg
  have h2 := (toN_ok (q := q) (k := k) (g := g) hq hk ht).2
  unfold atK
  rw [takeUp_at h2, takeUp_at hk, take_sym hk4 hg hq hk hst hok]
theorem taken_keep {kind q : Nat} {xs : List Col} (h : TakenP kind q xs) {g : Int × Bool} (hg : g ∈ symsL (kind : Int)) : keepB ((q : Int) + 1) xs g = true := by
  have ht : inB g.1 0 3 = true := symsL_in g hg
  rw [keep_iff h.1 ht]
  intro k hk
  rw [h.1.2.1] at hk
  exact h.2 k hk g hg
theorem taken_has {kind q : Nat} {xs : List Col} (hk4 : kind < 4) (h : TakenP kind q xs) {g : Int × Bool} (hg : g ∈ symsL (kind : Int)) : inS (symsP ((q : Int) + 1) xs) g = true := by
  rw [inS_iff, mem_symsP h.1]
  exact ⟨symsL_in3 kind hk4 g hg, taken_keep h hg⟩
theorem taken_mir {kind q : Nat} {xs : List Col} (hk4 : kind < 4) (h : TakenP kind q xs) : (kind : Int) ≤ mirI ((q : Int) + 1) xs := by
  rw [mirI_eq]
  have hok : okA ((q : Int) + 1) xs kind = true := by
    unfold okA
    rw [pic_ok h.1, Bool.true_and, List.all_eq_true]
    exact fun g hg => taken_keep h hg
  have key : ∀ n, kind < n → (kind : Int) ≤ lastUp (okA ((q : Int) + 1) xs) (-1) n := by
    intro n
    induction n with
    | zero => intro h; omega
    | succ n ih =>
      intro h
      cases hn : okA ((q : Int) + 1) xs n
      · rw [lastUp_no hn]
        refine ih ?_
        by_cases e : kind = n
        · subst e; rw [hok] at hn; cases hn
        · omega
      · rw [lastUp_yes hn]; omega
  exact key 4 hk4
def firstOk (kind q : Nat) : Bool := (List.range ((q + 1) * (q + 1))).all fun k => (symsL (kind : Int)).any fun g => decide (firstI (kind : Int) ((q : Int) + 1) (k : Int) = cellI ((q : Int) + 1) (k : Int) g.1 g.2)
theorem first_all : ∀ kind : Nat, kind < 4 → ∀ q : Nat, q < 6 → firstOk kind q = true := by decide +kernel
theorem first_cell {kind q k : Nat} (hk4 : kind < 4) (hq : q < 6) (hk : k < (q + 1) * (q + 1)) : ∃ g ∈ symsL (kind : Int), (firstI (kind : Int) ((q : Int) + 1) (k : Int)).toNat = toN q k g := by
  have h := List.all_eq_true.1 (first_all kind hk4 q hq) k (List.mem_range.2 hk)
  obtain ⟨g, hg, he⟩ := List.any_eq_true.1 h
  refine ⟨g, hg, ?_⟩
  rw [of_decide_eq_true he]
  rfl
theorem taken_spread {kind q : Nat} {xs : List Col} (hk4 : kind < 4) (hq : q < 6) (h : TakenP kind q xs) : sameP ((q : Int) + 1) xs ((q : Int) + 1) (spreadUp (kind : Int) ((q : Int) + 1) xs xs.length) = true := by
  have hpz := (spread_pic h.1 hk4).2
  rw [sameP_iff h.1.2.2 hpz.2.2 (by rw [spreadUp_len])]
  intro k hk
  have hk' : k < (q + 1) * (q + 1) := by rw [← h.1.2.1]; exact hk
  obtain ⟨g, hg, e⟩ := first_cell hk4 hq hk'
  have ht : inB g.1 0 3 = true := symsL_in g hg
  have h2 := (toN_ok (q := q) (k := k) (g := g) (by omega) hk' ht).2
  rw [← h.2 k hk' g hg]
  unfold atK spreadUp
  rw [List.getElem?_map, List.getElem?_range hk]
  simp only [Option.map_some]
  rw [e, List.getD_eq_getElem?_getD, List.getElem?_eq_getElem (show toN q k g < xs.length by rw [h.1.2.1]; exact h2)]
  rfl
end Go.Proofs.Ytchkcleenmoajaa
