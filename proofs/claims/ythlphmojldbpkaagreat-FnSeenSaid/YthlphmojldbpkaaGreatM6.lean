/- ShowP · RunL · DrawnL · AgainL · DrawT · DrawE · DrawTum · DrawSh -/
import Derived.Test.YthlphmojldbpkaaGreatM3
import Derived.Test.YthlphmojldbpkaaGreatTick
import Derived.Test.YthlphmojldbpkaaGreatFltQ
import Derived.Test.YthlphmojldbpkaaGreatFltR
import Derived.Deep.CutRange

/- Events and shows, plain: what an event does to a show. -/
namespace Go.Proofs.YthlphmojldbpkaaGreat
open Go.RowKit

/-! ### both versions fold a point alike, whatever its zeros' signs -/
def p32 (p : Pt) : Prop := finP p ∧ p.1 < 4294967296 ∧ p.2 < 4294967296
theorem p32_of_cw {p : Pt} (h : cwP p) : p32 p := ⟨cwP_fin h, cw_lt h.1, cw_lt h.2⟩
theorem rotB_32 {p : Pt} (h : p32 p) : p32 (rotB p) := by
  obtain ⟨⟨h1, h2⟩, h3, h4⟩ := h
  have c := neg_cw h2
  exact ⟨⟨c.1, h1⟩, cw_lt c, h3⟩
theorem rotN_32 {p : Pt} (h : p32 p) : ∀ n, p32 (rotN n p)
  | 0 => h
  | n + 1 => rotB_32 (rotN_32 h n)
theorem flip_32 {f : Bool} {p : Pt} (h : p32 p) : p32 (p.1, flipB f p.2) := by
  cases f
  · exact h
  · have c := neg_cw h.1.2
    exact ⟨⟨h.1.1, c.1⟩, h.2.1, cw_lt c⟩
theorem actI_cw32 {t : Int} {f : Bool} {re im : Nat} (h : p32 (re, im)) : cwP (actI t f re im) := by
  have k := rotN_32 (flip_32 (f := f) h) t.toNat
  exact ⟨cleanB_cw k.1.1 k.2.1, cleanB_cw k.1.2 k.2.2⟩
theorem act_eq32 {t : Int} {f : Bool} {re im : Nat} (h : p32 (re, im)) : actS t f re im = actI t f re im :=
  cwP_ext (actS_cw h.1) (actI_cw32 h) (by rw [(actS_key h.1).1, (actI_key h.1).1])
theorem cwP_zero : cwP (0, 0) := by
  have : cw 0 := ⟨by decide, by decide⟩
  exact ⟨this, this⟩
theorem fold_facts {kind : Int} {z : Pt} (hk : inB kind 0 3 = true) (hz : p32 z) (h : pointB z.1 z.2 = true) :
    foldS kind z = foldP kind z ∧ (foldP kind z).2.2 = true ∧ inB (foldP kind z).2.1.1 0 3 = true ∧ cwP (foldP kind z).1 ∧ wedgeB kind (foldP kind z).1 = true := by
  obtain ⟨g, hm, hg, hs⟩ := firstG_some hk (keyP z)
  have hw := wedge_key (kind := kind) (f := g.2) (symsL_in g hm) h
  rw [foldS_g h hg, foldP_g h hg]
  dsimp only
  rw [hs] at hw
  rw [actP_yes (symsL_in g hm) h] at hw ⊢
  exact ⟨by rw [act_eq32 (show p32 (z.1, z.2) from hz)], rfl, symsL_in g hm, actI_cw32 hz, hw⟩
theorem okW_32 {z : Pt} (h1 : okW z.1 = true) (h2 : okW z.2 = true) : p32 z ∧ pointB z.1 z.2 = true := by
  unfold okW at h1 h2
  simp only [Bool.and_eq_true, decide_eq_true_eq] at h1 h2
  have h : pointB z.1 z.2 = true := by unfold pointB; rw [h1.1, h2.1]; rfl
  exact ⟨⟨point_fin h, h1.2, h2.2⟩, h⟩
theorem actP_cw {t : Int} {f : Bool} {p : Pt} (h : cwP p) : cwP (actP t f p.1 p.2) := by
  unfold actP
  split
  · exact actI_cw32 (p32_of_cw h)
  · exact cwP_zero
theorem foldP_cw {kind : Int} {z : Pt} (hk : inB kind 0 3 = true) (hz : p32 z) : cwP (foldP kind z).1 := by
  cases h : pointB z.1 z.2
  · rw [foldP_no h]; exact cwP_zero
  · exact (fold_facts hk hz h).2.2.2.1

/-! ### events -/
inductive Ev where
  | add (s : Sh) (z : Pt)
  | take (n : Int)
  | light (c : Col)
  | mirrors (n : Int)
  | gravity (z : Pt)
  | push (n : Int) (z : Pt)
  | wait (n : Int)
def sh0 : Sh := ((0, 0), (0, 0), (0, 0), (0, 0, 0), 0)
def Ev.k : Ev → Int | .add .. => 1 | .take .. => 2 | .light .. => 3 | .mirrors .. => 4 | .gravity .. => 5 | .push .. => 6 | .wait .. => 7
def Ev.n : Ev → Int | .take n => n | .mirrors n => n | .push n _ => n | .wait n => n | .add .. => 0 | .light .. => 0 | .gravity .. => 0
def Ev.z : Ev → Pt | .add _ z => z | .gravity z => z | .push _ z => z | .take .. => (0, 0) | .light .. => (0, 0) | .mirrors .. => (0, 0) | .wait .. => (0, 0)
def Ev.s : Ev → Sh | .add s _ => s | .take .. => sh0 | .light .. => sh0 | .mirrors .. => sh0 | .gravity .. => sh0 | .push .. => sh0 | .wait .. => sh0
def Ev.c : Ev → Col | .light c => c | .add .. => (0, 0, 0) | .take .. => (0, 0, 0) | .mirrors .. => (0, 0, 0) | .gravity .. => (0, 0, 0) | .push .. => (0, 0, 0) | .wait .. => (0, 0, 0)
def evC (e : Ev) : List Value := [.int .i64 e.k, .int .i64 e.n, .complex .f32 e.z.1 e.z.2, .complex .f32 e.s.1.1 e.s.1.2, .complex .f32 e.s.2.1.1 e.s.2.1.2, .complex .f32 e.s.2.2.1.1 e.s.2.2.1.2, .float .f32 e.s.2.2.2.1.1, .float .f32 e.s.2.2.2.1.2.1, .float .f32 e.s.2.2.2.1.2.2, .float .f32 e.s.2.2.2.2, .float .f32 e.c.1, .float .f32 e.c.2.1, .float .f32 e.c.2.2]
theorem evC_len (e : Ev) : (evC e).length = 13 := rfl
/-- its numbers are such as are drawn -/
def evG : Ev → Bool
  | .add s z => okSh s && (okW z.1 && okW z.2)
  | .light c => colB c
  | .gravity z => pointB z.1 z.2
  | .push _ z => okW z.1 && okW z.2
  | .take .. => true | .mirrors .. => true | .wait .. => true
/-- its count lies in its bounds -/
def evR : Ev → Bool
  | .take n => inB n 0 7
  | .mirrors n => inB n 0 3
  | .push n _ => inB n 0 7
  | .wait n => inB n 1 32
  | .add .. => true | .light .. => true | .gravity .. => true
def evB (e : Ev) : Bool := evG e && evR e

/-! ### shows -/
structure Shw where
  sz : Int
  st : Nat
  li : Col
  sh : List Sh
  mir : Int
  gr : Pt
  loss : Nat
  bs : List Bd
  tk : Int
  log : List Ev
/-- what holds of every show, and of one that is being changed -/
structure Good (s : Shw) : Prop where
  sz : inB s.sz 1 8 = true
  st : stpB s.st = true
  li : colB s.li = true
  sh : s.sh.all okSh = true
  mir : inB s.mir 0 3 = true
  gr : pointB s.gr.1 s.gr.2 = true
  loss : partB s.loss = true
  len : s.bs.length = s.sh.length
  log : s.log.all evB = true
  wed : ∀ b ∈ s.bs, wedgeB s.mir b.1 = true
  cw : ∀ b ∈ s.bs, cwP b.1 ∧ cwP b.2
def okS (s : Shw) : Bool := decide (s.bs.length ≤ 8) && (s.bs.all (fun b => pointB b.2.1 b.2.2) && (inB s.tk 0 200 && decide (s.log.length ≤ 24)))
theorem good_tum {s : Shw} (h : Good s) : tumB s.mir s.gr s.loss s.bs = (decide (s.bs.length ≤ 8) && s.bs.all (fun b => pointB b.2.1 b.2.2)) := by
  unfold tumB
  rw [h.mir, h.gr, h.loss, Bool.true_and, Bool.true_and, Bool.true_and]
  congr 1
  rw [Bool.eq_iff_iff, List.all_eq_true, List.all_eq_true]
  constructor
  · intro k b hb
    have := k b hb
    unfold okBd at this
    rw [Bool.and_eq_true] at this
    exact this.2
  · intro k b hb
    unfold okBd
    rw [h.wed b hb, k b hb]; rfl
theorem okS_parts {s : Shw} : okS s = true ↔ s.bs.length ≤ 8 ∧ (∀ b ∈ s.bs, pointB b.2.1 b.2.2 = true) ∧ inB s.tk 0 200 = true ∧ s.log.length ≤ 24 := by
  unfold okS
  simp only [Bool.and_eq_true, decide_eq_true_eq, List.all_eq_true]
theorem okS_eq {s : Shw} (h : Good s) : okS s = (tumB s.mir s.gr s.loss s.bs && (inB s.tk 0 200 && decide (s.log.length ≤ 24))) := by
  rw [good_tum h, okS, Bool.and_assoc]
theorem ok_tum {s : Shw} (h : Good s) (k : okS s = true) : tumB s.mir s.gr s.loss s.bs = true := by
  rw [okS_eq h, Bool.and_eq_true] at k
  exact k.1

/-! ### what an event does -/
def mirBd (n : Int) (b : Bd) : Bd := ((foldP n b.1).1, actP (foldP n b.1).2.1.1 (foldP n b.1).2.1.2 b.2.1 b.2.2)
def tickS (s : Shw) : Shw := { s with bs := goL s.mir s.gr s.loss s.bs, tk := s.tk + 1 }
def waitS (s : Shw) : Nat → Option Shw
  | 0 => some s
  | k + 1 => match waitS s k with
    | some t => if allGo t.gr t.bs then some (tickS t) else none
    | none => none
def hap (s : Shw) : Ev → Option Shw
  | .add x z => some { s with sh := s.sh ++ [x], bs := s.bs ++ [((foldP s.mir z).1, (0, 0))] }
  | .take n => if n < s.bs.length then some { s with sh := s.sh.eraseIdx n.toNat, bs := s.bs.eraseIdx n.toNat } else none
  | .light c => some { s with li := c }
  | .mirrors n => some { s with mir := n, bs := s.bs.map (mirBd n) }
  | .gravity z => some { s with gr := z }
  | .push n z => if n < s.bs.length then some { s with bs := s.bs.modify n.toNat (fun b => (b.1, plusP b.2 z)) } else none
  | .wait n => waitS s n.toNat
def logged (t : Shw) (e : Ev) : Shw := { t with log := t.log ++ [e] }
def doE (s : Shw) (e : Ev) : Option Shw :=
  if evR e then match hap s e with
    | some t => if okS (logged t e) then some (logged t e) else none
    | none => none
  else none

theorem waitS_inv {s : Shw} (h : Good s) (ht : tumB s.mir s.gr s.loss s.bs = true) : ∀ {k : Nat} {t : Shw}, waitS s k = some t →
    Good t ∧ tumB t.mir t.gr t.loss t.bs = true ∧ t.sz = s.sz ∧ t.st = s.st ∧ t.li = s.li ∧ t.sh = s.sh ∧ t.mir = s.mir ∧ t.gr = s.gr ∧ t.loss = s.loss ∧ t.bs.length = s.bs.length ∧ t.tk = s.tk + (k : Int) ∧ t.log = s.log
  | 0, t, e => by
    injection e with e
    subst e
    exact ⟨h, ht, rfl, rfl, rfl, rfl, rfl, rfl, rfl, rfl, by simp, rfl⟩
  | k + 1, t, e => by
    unfold waitS at e
    cases hk : waitS s k with
    | none => rw [hk] at e; cases e
    | some u =>
      rw [hk] at e
      dsimp only at e
      obtain ⟨g, m, e1, e2, e3, e4, e5, e6, e7, e8, e9, e10⟩ := waitS_inv h ht hk
      split at e
      · rename_i ha
        injection e with e
        subst e
        have hg := goL_tum m
        have hp := tumB_parts.1 hg
        refine ⟨⟨g.sz, g.st, g.li, g.sh, g.mir, g.gr, g.loss, ?_, g.log, ?_, ?_⟩, hg, e1, e2, e3, e4, e5, e6, e7, ?_, ?_, e10⟩
        · show (goL _ _ _ _).length = _
          simp only [goL, List.length_map]
          exact g.len
        · intro b hb
          have := List.all_eq_true.1 hp.2.2.2.2 b hb
          unfold okBd at this
          rw [Bool.and_eq_true] at this
          exact this.1
        · intro b hb
          unfold tickS goL at hb
          simp only [List.mem_map] at hb
          obtain ⟨a, ha', rfl⟩ := hb
          obtain ⟨c1, c2⟩ := g.cw a ha'
          have v := plus_cw (cwP_fin c2) (point_fin g.gr)
          have z := plus_cw (cwP_fin c1) (cwP_fin v)
          have f1 := foldP_cw g.mir (p32_of_cw z)
          have s1 := actP_cw (t := (foldP u.mir (plusP a.1 (plusP a.2 u.gr))).2.1.1) (f := (foldP u.mir (plusP a.1 (plusP a.2 u.gr))).2.1.2) v
          unfold goBd
          dsimp only
          split
          · exact ⟨f1, s1⟩
          · have fl := part_fin g.loss
            have f2 : finB (subB 1065353216 u.loss) = true := (subB_cw (by decide) fl).1
            exact ⟨f1, mulB_cw s1.1.1 f2, mulB_cw s1.2.1 f2⟩
        · show (goL _ _ _ _).length = _
          simp only [goL, List.length_map]
          exact e8
        · show u.tk + 1 = _
          rw [e9]; push_cast; omega
      · cases e

theorem good_hap {s t : Shw} {e : Ev} (h : Good s) (k : okS s = true) (he : evG e = true) (hr : evR e = true) (hh : hap s e = some t) : Good t := by
  obtain ⟨k1, k2, k3, k4⟩ := okS_parts.1 k
  cases e with
  | add x z =>
    injection hh with hh
    subst hh
    simp only [evG] at he
    simp only [Bool.and_eq_true] at he
    obtain ⟨z1, z2⟩ := okW_32 he.2.1 he.2.2
    obtain ⟨_, _, _, f1, f2⟩ := fold_facts h.mir z1 z2
    refine ⟨h.sz, h.st, h.li, by simp [List.all_append, h.sh, he.1], h.mir, h.gr, h.loss, by simp [h.len], h.log, ?_, ?_⟩
    · intro b hb
      rcases List.mem_append.1 hb with hb | hb
      · exact h.wed b hb
      · simp only [List.mem_singleton] at hb
        subst hb
        exact f2
    · intro b hb
      rcases List.mem_append.1 hb with hb | hb
      · exact h.cw b hb
      · simp only [List.mem_singleton] at hb
        subst hb
        exact ⟨f1, cwP_zero⟩
  | take n =>
    simp only [hap] at hh
    split at hh
    · rename_i hn
      injection hh with hh
      subst hh
      simp only [evR] at hr
      obtain ⟨n0, n7⟩ := inB_true hr
      have e1 : n.toNat < s.bs.length := by omega
      have e2 : n.toNat < s.sh.length := by have := h.len; omega
      refine ⟨h.sz, h.st, h.li, ?_, h.mir, h.gr, h.loss, ?_, h.log, fun b hb => h.wed b (List.mem_of_mem_eraseIdx hb), fun b hb => h.cw b (List.mem_of_mem_eraseIdx hb)⟩
      · rw [List.all_eq_true]
        exact fun x hx => List.all_eq_true.1 h.sh x (List.mem_of_mem_eraseIdx hx)
      · show (s.bs.eraseIdx _).length = (s.sh.eraseIdx _).length
        rw [List.length_eraseIdx_of_lt e1, List.length_eraseIdx_of_lt e2, h.len]
    · cases hh
  | light c =>
    injection hh with hh
    subst hh
    exact ⟨h.sz, h.st, he, h.sh, h.mir, h.gr, h.loss, h.len, h.log, h.wed, h.cw⟩
  | mirrors n =>
    injection hh with hh
    subst hh
    simp only [evR] at hr
    have hb0 : ∀ b ∈ s.bs.map (mirBd n), wedgeB n b.1 = true ∧ cwP b.1 ∧ cwP b.2 := by
      intro b hb
      obtain ⟨a, ha, rfl⟩ := List.mem_map.1 hb
      obtain ⟨c1, c2⟩ := h.cw a ha
      have hp : pointB a.1.1 a.1.2 = true := by
        have := h.wed a ha
        unfold wedgeB at this
        rw [Bool.and_eq_true] at this
        exact this.1
      obtain ⟨_, _, _, f1, f2⟩ := fold_facts hr (p32_of_cw c1) hp
      exact ⟨f2, f1, actP_cw c2⟩
    exact ⟨h.sz, h.st, h.li, h.sh, hr, h.gr, h.loss, by simp [h.len], h.log, fun b hb => (hb0 b hb).1, fun b hb => (hb0 b hb).2⟩
  | gravity z =>
    injection hh with hh
    subst hh
    exact ⟨h.sz, h.st, h.li, h.sh, h.mir, he, h.loss, h.len, h.log, h.wed, h.cw⟩
  | push n z =>
    simp only [hap] at hh
    split at hh
    · injection hh with hh
      subst hh
      simp only [evG] at he
      simp only [Bool.and_eq_true] at he
      obtain ⟨z1, z2⟩ := okW_32 he.1 he.2
      have hb0 : ∀ b ∈ s.bs.modify n.toNat (fun b => (b.1, plusP b.2 z)), wedgeB s.mir b.1 = true ∧ cwP b.1 ∧ cwP b.2 := by
        intro b hb
        obtain ⟨i, hi⟩ := List.getElem?_of_mem hb
        rw [List.getElem?_modify] at hi
        cases ha : s.bs[i]? with
        | none => rw [ha] at hi; cases hi
        | some a =>
          rw [ha] at hi
          have hm := List.mem_of_getElem? ha
          obtain ⟨c1, c2⟩ := h.cw a hm
          by_cases e : n.toNat = i
          · simp only [e, if_pos, Option.map_some, Functor.map] at hi
            injection hi with hi
            subst hi
            exact ⟨h.wed a hm, c1, plus_cw (cwP_fin c2) z1.1⟩
          · simp only [e, if_neg, not_false_eq_true, Option.map_some, Functor.map] at hi
            injection hi with hi
            subst hi
            exact ⟨h.wed a hm, c1, c2⟩
      exact ⟨h.sz, h.st, h.li, h.sh, h.mir, h.gr, h.loss, by simp [h.len], h.log, fun b hb => (hb0 b hb).1, fun b hb => (hb0 b hb).2⟩
    · cases hh
  | wait n => exact (waitS_inv h (ok_tum h k) hh).1
theorem good_logged {t : Shw} {e : Ev} (h : Good t) (he : evB e = true) : Good (logged t e) :=
  ⟨h.sz, h.st, h.li, h.sh, h.mir, h.gr, h.loss, h.len, by simp [logged, List.all_append, h.log, he], h.wed, h.cw⟩
theorem doE_some {s t : Shw} {e : Ev} (h : doE s e = some t) : evR e = true ∧ ∃ u, hap s e = some u ∧ t = logged u e ∧ okS t = true := by
  unfold doE at h
  split at h
  · rename_i hr
    refine ⟨hr, ?_⟩
    cases hh : hap s e with
    | none => rw [hh] at h; cases h
    | some u =>
      rw [hh] at h
      dsimp only at h
      split at h
      · rename_i hk
        injection h with h
        exact ⟨u, rfl, h.symm, by rw [← h]; exact hk⟩
      · cases h
  · cases h
theorem doE_good {s t : Shw} {e : Ev} (hg : Good s) (k : okS s = true) (he : evG e = true) (h : doE s e = some t) : Good t ∧ okS t = true := by
  obtain ⟨hr, u, hu, rfl, hk⟩ := doE_some h
  exact ⟨good_logged (good_hap hg k he hr hu) (by unfold evB; rw [he, hr]; rfl), hk⟩
/-- the bounds of a show that is being changed -/
theorem hap_len {s t : Shw} {e : Ev} (h : Good s) (k : okS s = true) (hr : evR e = true) (hh : hap s e = some t) : t.bs.length ≤ 9 ∧ t.sh.length ≤ 9 ∧ t.log = s.log ∧ 0 ≤ t.tk ∧ t.tk ≤ 232 := by
  obtain ⟨k1, k2, k3, k4⟩ := okS_parts.1 k
  obtain ⟨t0, t1⟩ := inB_true k3
  have hl := h.len
  cases e with
  | add x z => injection hh with hh; subst hh; simp; omega
  | take n =>
    simp only [hap] at hh
    split at hh
    · injection hh with hh
      subst hh
      refine ⟨?_, ?_, rfl, t0, by show s.tk ≤ 232; omega⟩
      · exact Nat.le_trans (List.length_eraseIdx_le ..) (by omega)
      · exact Nat.le_trans (List.length_eraseIdx_le ..) (by omega)
    · cases hh
  | light c => injection hh with hh; subst hh; exact ⟨by dsimp only; omega, by dsimp only; omega, rfl, t0, by dsimp only; omega⟩
  | mirrors n => injection hh with hh; subst hh; simp; omega
  | gravity z => injection hh with hh; subst hh; exact ⟨by dsimp only; omega, by dsimp only; omega, rfl, t0, by dsimp only; omega⟩
  | push n z =>
    simp only [hap] at hh
    split at hh
    · injection hh with hh
      subst hh
      simp; omega
    · cases hh
  | wait n =>
    simp only [evR] at hr
    obtain ⟨n1, n2⟩ := inB_true hr
    obtain ⟨_, _, _, _, _, e4, _, _, _, e8, e9, e10⟩ := waitS_inv h (ok_tum h k) hh
    refine ⟨by omega, by rw [e4]; omega, e10, by omega, by omega⟩
end Go.Proofs.YthlphmojldbpkaaGreat

/- Events one after the other, plain. -/
namespace Go.Proofs.YthlphmojldbpkaaGreat

/-- the show behind the first k events; none: one of them was refused -/
def runK (s : Shw) (es : List Ev) : Nat → Option Shw
  | 0 => some s
  | k + 1 => match runK s es k, es[k]? with
    | some t, some e => doE t e
    | _, _ => none
theorem runK_succ {s t : Shw} {es : List Ev} {k : Nat} {e : Ev} (h : runK s es k = some t) (he : es[k]? = some e) : runK s es (k + 1) = doE t e := by
  show (match runK s es k, es[k]? with | some t, some e => doE t e | _, _ => none) = _
  rw [h, he]
theorem runK_good {s : Shw} {es : List Ev} (hg : Good s) (hk : okS s = true) (he : es.all evG = true) : ∀ {k : Nat} {t : Shw}, runK s es k = some t → Good t ∧ okS t = true
  | 0, t, h => by
    injection h with h
    subst h
    exact ⟨hg, hk⟩
  | k + 1, t, h => by
    cases hr : runK s es k with
    | none =>
      have : (match runK s es k, es[k]? with | some t, some e => doE t e | _, _ => none) = some t := h
      rw [hr] at this
      cases this
    | some u =>
      cases hx : es[k]? with
      | none =>
        have : (match runK s es k, es[k]? with | some t, some e => doE t e | _, _ => none) = some t := h
        rw [hr, hx] at this
        cases this
      | some e =>
        obtain ⟨g, o⟩ := runK_good hg hk he hr
        rw [runK_succ hr hx] at h
        exact doE_good g o (List.all_eq_true.1 he e (List.mem_of_getElem? hx)) h
theorem runK_log {s : Shw} {es : List Ev} : ∀ {k : Nat} {t : Shw}, runK s es k = some t → k ≤ es.length ∧ runK s es k = some t
  | 0, t, h => ⟨Nat.zero_le _, h⟩
  | k + 1, t, h => by
    refine ⟨?_, h⟩
    cases hr : runK s es k with
    | none =>
      have : (match runK s es k, es[k]? with | some t, some e => doE t e | _, _ => none) = some t := h
      rw [hr] at this
      cases this
    | some u =>
      cases hx : es[k]? with
      | none =>
        have : (match runK s es k, es[k]? with | some t, some e => doE t e | _, _ => none) = some t := h
        rw [hr, hx] at this
        cases this
      | some e => exact (List.getElem?_eq_some_iff.1 hx).1
end Go.Proofs.YthlphmojldbpkaaGreat

/- Shows that are drawn: each is what its log tells, from a new show on. No program. -/
namespace Go.Proofs.YthlphmojldbpkaaGreat

def newS (sz : Int) (st : Nat) : Shw := { sz := sz, st := st, li := (0, 0, 0), sh := [], mir := 0, gr := (0, 0), loss := 0, bs := [], tk := 0, log := [] }
def stepsD : List Nat := [1056964608, 1065353216, 1073741824, 1050253722]
/-- a valid show that its log tells, of the sizes and steps that are drawn -/
structure Drawn (s : Shw) : Prop where
  szl : s.sz ≤ 5
  stl : s.st ∈ stepsD
  good : Good s
  ok : okS s = true
  run : runK (newS s.sz s.st) s.log s.log.length = some s

theorem new_good {sz : Int} {st : Nat} (h1 : inB sz 1 8 = true) (h2 : stpB st = true) : Good (newS sz st) :=
  ⟨h1, h2, (show colB (0, 0, 0) = true by decide +kernel), rfl, rfl, (show pointB 0 0 = true by decide +kernel), (show partB 0 = true by decide +kernel), rfl, rfl, (fun b h => by cases h), (fun b h => by cases h)⟩
theorem new_drawn {sz : Int} {st : Nat} (h1 : inB sz 1 8 = true) (h2 : stpB st = true) (h3 : sz ≤ 5) (h4 : st ∈ stepsD) : Drawn (newS sz st) :=
  ⟨h3, h4, new_good h1 h2, rfl, rfl⟩

theorem waitS_keeps {s : Shw} : ∀ {k : Nat} {t : Shw}, waitS s k = some t → t.sz = s.sz ∧ t.st = s.st ∧ t.log = s.log
  | 0, t, h => by
    injection h with h
    subst h
    exact ⟨rfl, rfl, rfl⟩
  | k + 1, t, h => by
    unfold waitS at h
    cases hk : waitS s k with
    | none => rw [hk] at h; cases h
    | some u =>
      rw [hk] at h
      dsimp only at h
      split at h
      · injection h with h
        subst h
        obtain ⟨a, b, c⟩ := waitS_keeps hk
        exact ⟨a, b, c⟩
      · cases h
theorem hap_keeps {s t : Shw} {e : Ev} (h : hap s e = some t) : t.sz = s.sz ∧ t.st = s.st ∧ t.log = s.log := by
  cases e with
  | wait n => exact waitS_keeps h
  | take n =>
    simp only [hap] at h
    split at h
    · injection h with h
      subst h
      exact ⟨rfl, rfl, rfl⟩
    · cases h
  | push n z =>
    simp only [hap] at h
    split at h
    · injection h with h
      subst h
      exact ⟨rfl, rfl, rfl⟩
    · cases h
  | add x z => injection h with h; subst h; exact ⟨rfl, rfl, rfl⟩
  | light c => injection h with h; subst h; exact ⟨rfl, rfl, rfl⟩
  | mirrors n => injection h with h; subst h; exact ⟨rfl, rfl, rfl⟩
  | gravity z => injection h with h; subst h; exact ⟨rfl, rfl, rfl⟩
theorem doE_keeps {s t : Shw} {e : Ev} (h : doE s e = some t) : t.sz = s.sz ∧ t.st = s.st ∧ t.log = s.log ++ [e] := by
  obtain ⟨_, u, hu, rfl, _⟩ := doE_some h
  obtain ⟨h1, h2, h3⟩ := hap_keeps hu
  exact ⟨h1, h2, by rw [← h3]; rfl⟩

/-! ### runs cut -/
theorem runK_none {s : Shw} {es : List Ev} {k : Nat} (h : runK s es k = none) : runK s es (k + 1) = none := by
  show (match runK s es k, es[k]? with | some t, some e => doE t e | _, _ => none) = _
  rw [h]
theorem runK_prefix {s u : Shw} {es : List Ev} {n : Nat} (h : runK s es n = some u) : ∀ {k : Nat}, k ≤ n → ∃ t, runK s es k = some t := by
  intro k hk
  cases hr : runK s es k with
  | some t => exact ⟨t, rfl⟩
  | none =>
    exfalso
    have : ∀ j, runK s es (k + j) = none := by
      intro j
      induction j with
      | zero => exact hr
      | succ j ih => exact runK_none ih
    have := this (n - k)
    rw [show k + (n - k) = n by omega, h] at this
    cases this
/-- where the whole goes through, it goes through -/
theorem run_all {s t u : Shw} {es : List Ev} {n k : Nat} (h : runK s es n = some u) (ht : runK s es k = some t) (hk : k ≤ n) (hc : k = n ∨ ∃ e, es[k]? = some e ∧ doE t e = none) : k = n ∧ t = u := by
  rcases hc with e | ⟨e, he, hd⟩
  · subst e
    rw [h] at ht
    injection ht with ht
    exact ⟨rfl, ht.symm⟩
  · by_cases hkn : k = n
    · subst hkn
      rw [h] at ht
      injection ht with ht
      exact ⟨rfl, ht.symm⟩
    · obtain ⟨v, hv⟩ := runK_prefix h (show k + 1 ≤ n by omega)
      rw [runK_succ ht he, hd] at hv
      cases hv
theorem runK_congr {s : Shw} {es fs : List Ev} : ∀ {n : Nat}, (∀ k, k < n → es[k]? = fs[k]?) → runK s es n = runK s fs n
  | 0, _ => rfl
  | n + 1, h => by
    show (match runK s es n, es[n]? with | some t, some e => doE t e | _, _ => none) = (match runK s fs n, fs[n]? with | some t, some e => doE t e | _, _ => none)
    rw [runK_congr (n := n) (fun k hk => h k (by omega)), h n (by omega)]
theorem runK_take {s : Shw} {es : List Ev} {n : Nat} : runK s (es.take n) n = runK s es n :=
  runK_congr fun k hk => by rw [List.getElem?_take_of_lt hk]
theorem runK_drop {s h : Shw} {es : List Ev} {n : Nat} (hr : runK s es n = some h) : ∀ k, runK h (es.drop n) k = runK s es (n + k)
  | 0 => hr.symm
  | k + 1 => by
    show (match runK h (es.drop n) k, (es.drop n)[k]? with | some t, some e => doE t e | _, _ => none) = (match runK s es (n + k), es[n + k]? with | some t, some e => doE t e | _, _ => none)
    rw [runK_drop hr k, List.getElem?_drop]
theorem runK_app {s t : Shw} {es : List Ev} {e : Ev} (h : runK s es es.length = some t) : runK s (es ++ [e]) (es ++ [e]).length = doE t e := by
  rw [List.length_append, List.length_singleton]
  have h1 : runK s (es ++ [e]) es.length = some t := by
    rw [← h]
    exact runK_congr fun k hk => by rw [List.getElem?_append_left hk]
  exact runK_succ h1 (by simp)
theorem drawn_doE {s t : Shw} {e : Ev} (h : Drawn s) (he : evG e = true) (hd : doE s e = some t) : Drawn t := by
  obtain ⟨g, o⟩ := doE_good h.good h.ok he hd
  obtain ⟨h1, h2, h3⟩ := doE_keeps hd
  refine ⟨by rw [h1]; exact h.szl, by rw [h2]; exact h.stl, g, o, ?_⟩
  rw [h1, h2, h3, runK_app h.run, hd]
theorem drawn_doD {s : Shw} {e : Ev} (h : Drawn s) (he : evG e = true) : Drawn ((doE s e).getD s) := by
  cases hd : doE s e with
  | none => exact h
  | some t => exact drawn_doE h he hd
theorem good_evs {s : Shw} (h : Good s) : s.log.all evG = true := by
  rw [List.all_eq_true]
  intro e he
  have := List.all_eq_true.1 h.log e he
  unfold evB at this
  rw [Bool.and_eq_true] at this
  exact this.1
end Go.Proofs.YthlphmojldbpkaaGreat

/- The same mirrors again; a light and another event exchanged. No program. -/
namespace Go.Proofs.YthlphmojldbpkaaGreat

theorem first_sym (kind : Int) (hk : inB kind 0 3 = true) : ∃ l, symsL kind = (0, false) :: l := by
  rcases kinds hk with rfl | rfl | rfl | rfl
  · exact ⟨_, syms0⟩
  · exact ⟨_, syms1⟩
  · exact ⟨_, syms2⟩
  · exact ⟨_, syms3⟩
theorem actP_none {p : Pt} (hc : cwP p) (hp : pointB p.1 p.2 = true) : actP 0 false p.1 p.2 = p := by
  rw [actP_yes (by decide) hp]
  refine cwP_ext (actI_cw32 (p32_of_cw hc)) hc ?_
  rw [(actI_key (cwP_fin hc)).1]
  rfl
theorem fold_wedge {kind : Int} {p : Pt} (hk : inB kind 0 3 = true) (hc : cwP p) (hw : wedgeB kind p = true) : foldP kind p = (p, (0, false), true) := by
  have hw' := hw
  unfold wedgeB at hw
  rw [Bool.and_eq_true] at hw
  obtain ⟨hp, hs⟩ := hw
  obtain ⟨l, hl⟩ := first_sym kind hk
  have hg : firstG kind (keyP p) = some (0, false) := by
    unfold firstG
    rw [hl, List.find?_cons_of_pos]
    have : aI 0 false (keyP p) = keyP p := rfl
    rw [this, ← sideB_key (cwP_fin hc)]
    exact hs
  rw [foldP_g hp hg]
  dsimp only
  rw [actP_none hc hp]
theorem mirBd_same {s : Shw} (hg : Good s) (hk : okS s = true) : s.bs.map (mirBd s.mir) = s.bs := by
  obtain ⟨_, p2, _, _⟩ := okS_parts.1 hk
  conv => rhs; rw [← List.map_id s.bs]
  refine List.map_congr_left fun b hb => ?_
  obtain ⟨c1, c2⟩ := hg.cw b hb
  unfold mirBd
  rw [fold_wedge hg.mir c1 (hg.wed b hb)]
  dsimp only
  rw [actP_none c2 (p2 b hb)]
  rfl
theorem doE_mir {s t : Shw} (hg : Good s) (hk : okS s = true) (h : doE s (.mirrors s.mir) = some t) : t = logged s (.mirrors s.mir) := by
  obtain ⟨_, u, hu, rfl, _⟩ := doE_some h
  injection hu with hu
  rw [mirBd_same hg hk] at hu
  rw [← hu]

/-- a show with another light and log -/
def withL (c : Col) (l : List Ev) (t : Shw) : Shw := { t with li := c, log := l }
theorem waitS_with (c : Col) (l : List Ev) (s : Shw) : ∀ k, waitS (withL c l s) k = (waitS s k).map (withL c l)
  | 0 => rfl
  | k + 1 => by
    unfold waitS
    rw [waitS_with c l s k]
    cases waitS s k with
    | none => rfl
    | some t =>
      simp only [Option.map_some]
      have e : allGo (withL c l t).gr (withL c l t).bs = allGo t.gr t.bs := rfl
      rw [e]
      split
      · rfl
      · rfl
theorem hap_with (c : Col) (l : List Ev) (s : Shw) {e : Ev} (he : e.k ≠ 3) : hap (withL c l s) e = (hap s e).map (withL c l) := by
  cases e with
  | light c' => exact absurd rfl he
  | wait n => exact waitS_with c l s n.toNat
  | take n =>
    simp only [hap]
    show (if n < s.bs.length then _ else _) = _
    split <;> rfl
  | push n z =>
    simp only [hap]
    show (if n < s.bs.length then _ else _) = _
    split <;> rfl
  | add x z => rfl
  | mirrors n => rfl
  | gravity z => rfl
def coreB (t : Shw) : Bool := decide (t.bs.length ≤ 8) && (t.bs.all (fun b => pointB b.2.1 b.2.2) && inB t.tk 0 200)
theorem okS_core (t : Shw) : okS t = (coreB t && decide (t.log.length ≤ 24)) := by
  unfold okS coreB
  rw [Bool.and_assoc, Bool.and_assoc]
theorem runK_two (s : Shw) (a b : Ev) : runK s [a, b] 2 = match doE s a with | some t => doE t b | none => none := by
  show (match (match some s, some a with | some t, some e => doE t e | _, _ => none), some b with | some t, some e => doE t e | _, _ => none) = _
  dsimp only
  cases doE s a with
  | none => rfl
  | some t => rfl
theorem doE_light (s : Shw) (c : Col) (hk : coreB s = true) : doE s (.light c) = if s.log.length + 1 ≤ 24 then some (withL c (s.log ++ [.light c]) s) else none := by
  unfold doE
  have e1 : evR (.light c) = true := rfl
  rw [e1, if_pos rfl]
  show (if okS (withL c (s.log ++ [.light c]) s) = true then some (withL c (s.log ++ [.light c]) s) else none) = _
  rw [okS_core, show coreB (withL c (s.log ++ [.light c]) s) = coreB s from rfl, hk, Bool.true_and]
  have : (withL c (s.log ++ [.light c]) s).log.length = s.log.length + 1 := by simp [withL]
  rw [this]
  by_cases h : s.log.length + 1 ≤ 24
  · rw [if_pos h, if_pos (by simpa using h)]
  · rw [if_neg h, if_neg (by simpa using h)]
theorem ok_core {s : Shw} (h : okS s = true) : coreB s = true ∧ s.log.length ≤ 24 := by
  rw [okS_core, Bool.and_eq_true, decide_eq_true_eq] at h
  exact h
/-- a light ahead of another event, or behind it: both are done, and all but the logs agree, or neither is -/
theorem swap_light (s : Shw) (c : Col) (e : Ev) (hk : okS s = true) (he : e.k ≠ 3) :
    (∃ t l1 l2, runK s [.light c, e] 2 = some (withL c l1 t) ∧ runK s [e, .light c] 2 = some (withL c l2 t)) ∨ (runK s [.light c, e] 2 = none ∧ runK s [e, .light c] 2 = none) := by
  obtain ⟨hc, hl⟩ := ok_core hk
  rw [runK_two, runK_two, doE_light s c hc]
  cases hr : evR e
  · right
    refine ⟨?_, by rw [show doE s e = none by unfold doE; rw [hr]; rfl]⟩
    split
    · unfold doE; rw [hr]; rfl
    · rfl
  · cases hh : hap s e with
    | none =>
      right
      refine ⟨?_, by rw [show doE s e = none by unfold doE; rw [hr, hh]; rfl]⟩
      by_cases h1 : s.log.length + 1 ≤ 24
      · rw [if_pos h1]
        dsimp only
        unfold doE
        rw [hr, if_pos rfl, hap_with c _ s he, hh]
        rfl
      · rw [if_neg h1]
    | some t =>
      have htl : t.log = s.log := (hap_keeps hh).2.2
      have e2 : doE s e = if (coreB t && decide (s.log.length + 1 ≤ 24)) = true then some (logged t e) else none := by
        unfold doE
        rw [hr, if_pos rfl, hh]
        dsimp only
        rw [okS_core, show coreB (logged t e) = coreB t from rfl]
        have : (logged t e).log.length = s.log.length + 1 := by simp [logged, htl]
        rw [this]
      have e3 : doE (withL c (s.log ++ [.light c]) s) e = if (coreB t && decide (s.log.length + 2 ≤ 24)) = true then some (withL c (s.log ++ [.light c] ++ [e]) t) else none := by
        unfold doE
        rw [hr, if_pos rfl, hap_with c _ s he, hh]
        simp only [Option.map_some]
        have q : logged (withL c (s.log ++ [.light c]) t) e = withL c (s.log ++ [.light c] ++ [e]) t := rfl
        rw [q, okS_core, show coreB (withL c (s.log ++ [.light c] ++ [e]) t) = coreB t from rfl]
        have : (withL c (s.log ++ [.light c] ++ [e]) t).log.length = s.log.length + 2 := by simp [withL]
        rw [this]
      by_cases hP : coreB t = true
      · by_cases h2 : s.log.length + 2 ≤ 24
        · left
          refine ⟨t, s.log ++ [.light c] ++ [e], (logged t e).log ++ [.light c], ?_, ?_⟩
          · rw [if_pos (by omega)]
            dsimp only
            rw [e3, if_pos (by simp [hP, h2])]
          · rw [e2, if_pos (by simp [hP]; omega)]
            dsimp only
            rw [doE_light (logged t e) c hP]
            have : (logged t e).log.length = s.log.length + 1 := by simp [logged, htl]
            rw [this, if_pos (by omega)]
            rfl
        · right
          refine ⟨?_, ?_⟩
          · by_cases h1 : s.log.length + 1 ≤ 24
            · rw [if_pos h1]
              dsimp only
              rw [e3, if_neg (by simp [hP]; omega)]
            · rw [if_neg h1]
          · rw [e2]
            by_cases h1 : s.log.length + 1 ≤ 24
            · rw [if_pos (by simp [hP, h1])]
              dsimp only
              rw [doE_light (logged t e) c hP]
              have : (logged t e).log.length = s.log.length + 1 := by simp [logged, htl]
              rw [this, if_neg (by omega)]
            · rw [if_neg (by simp [hP]; omega)]
      · right
        refine ⟨?_, ?_⟩
        · by_cases h1 : s.log.length + 1 ≤ 24
          · rw [if_pos h1]
            dsimp only
            rw [e3, if_neg (by simp [hP])]
          · rw [if_neg h1]
        · rw [e2, if_neg (by simp [hP])]
/-- two runs of one list stop at one place -/
theorem run_unique {s t1 t2 : Shw} {es : List Ev} {n k1 k2 : Nat} (h1 : runK s es k1 = some t1) (l1 : k1 ≤ n) (c1 : k1 = n ∨ ∃ e, es[k1]? = some e ∧ doE t1 e = none) (h2 : runK s es k2 = some t2) (l2 : k2 ≤ n) (c2 : k2 = n ∨ ∃ e, es[k2]? = some e ∧ doE t2 e = none) : k1 = k2 ∧ t1 = t2 := by
  have go : ∀ {a b : Nat} {u v : Shw}, runK s es a = some u → (a = n ∨ ∃ e, es[a]? = some e ∧ doE u e = none) → runK s es b = some v → b ≤ n → ¬ a < b := by
    intro a b u v ha ca hb lb hlt
    rcases ca with e | ⟨e, he, hd⟩
    · omega
    · obtain ⟨w, hw⟩ := runK_prefix hb (show a + 1 ≤ b by omega)
      rw [runK_succ ha he, hd] at hw
      cases hw
  have e : k1 = k2 := by
    have a := go h1 c1 h2 l2
    have b := go h2 c2 h1 l1
    omega
  subst e
  rw [h1] at h2
  injection h2 with h2
  exact ⟨rfl, h2⟩
end Go.Proofs.YthlphmojldbpkaaGreat

/- Draws of numbers from wider ranges, of points and speeds. -/
namespace Go.Proofs.YthlphmojldbpkaaGreat
open Go.RowKit
attribute [local go_sem] run_store_float run_store_complex

theorem l1ByteC (g : Nat) (A : Option Addr) (m c : Nat) (bs : List Int) (w : World) (hc : CurB w g A m c bs) :
    Calls Tryz.prog 88 #[.pointer (some ⟨g, 0, none⟩)] w fun e w' => ∃ x : Int, 0 ≤ x ∧ x ≤ 255 ∧ e = .returned (.int .i64 x) ∧ CurB w' g A m c bs ∧ w.grownBy w' (some g) := by
  refine (l1Byte_any g A m c bs w hc.2.2.2.2 hc.1 hc.2.1 hc.2.2.2.1).mono ?_
  rintro e w' ⟨x, h0, h1, rfl, h3, h4⟩
  exact ⟨x, h0, h1, rfl, hc.gr h3 h4, h4⟩

set_option maxHeartbeats 1000000 in
theorem l1BelowW (g : Nat) (A : Option Addr) (m c : Nat) (bs : List Int) (n : Int) (w : World) (hn : 257 ≤ n) (hn2 : n ≤ 100000) (hc : CurB w g A m c bs) :
    Calls Tryz.prog 43 #[.pointer (some ⟨g, 0, none⟩), .int .i64 n] w fun e w' => ∃ x : Nat, (x : Int) < n ∧ e = .returned (.int .i64 x) ∧ CurB w' g A m c bs ∧ w.grownBy w' (some g) := by
  have hnz : ¬ n = 0 := by omega
  have hn0 : ¬ n ≤ 0 := by omega
  have hn1 : ¬ n ≤ 256 := by omega
  go_enter Tryz.func43, Tryz.ntmps43
  go_wp2_with fail
  refine (l1ByteC g A m c bs _ hc).mono ?_
  rintro e w1 ⟨x, x0, x1, rfl, hc1, hg1⟩
  go_wp2_with fail
  refine (l1ByteC g A m c bs _ hc1).mono ?_
  rintro e w2 ⟨y, y0, y1, rfl, hc2, hg2⟩
  go_wp2_with fail
  refine (l1ByteC g A m c bs _ hc2).mono ?_
  rintro e w3 ⟨z, z0, z1, rfl, hc3, hg3⟩
  have e1 : IntKind.i64.wrap (x * 65536) = x * 65536 := by rw [IntKind.wrap_i64]; omega
  have e2 : IntKind.i64.wrap (y * 256) = y * 256 := by rw [IntKind.wrap_i64]; omega
  have e3 : IntKind.i64.wrap (x * 65536 + y * 256) = x * 65536 + y * 256 := by rw [IntKind.wrap_i64]; omega
  have e4 : IntKind.i64.wrap (x * 65536 + y * 256 + z) = x * 65536 + y * 256 + z := by rw [IntKind.wrap_i64]; omega
  go_wp2
  go_ret
  have f0 := Int.emod_nonneg (x * 65536 + y * 256 + z) hnz
  have f1 := Int.emod_lt_of_pos (x * 65536 + y * 256 + z) (show 0 < n by omega)
  exact ⟨((x * 65536 + y * 256 + z) % n).toNat, by omega, by rw [Int.toNat_of_nonneg f0]; rfl, hc3, grown_trans (grown_trans hg1 hg2) hg3⟩

theorem l1SomeN (g : Nat) (A : Option Addr) (m c : Nat) (bs : List Int) (lo hi : Int) (w : World) (h0 : -1000 ≤ lo) (h1 : lo ≤ hi) (h2 : hi - lo ≤ 255) (h3 : hi ≤ 1000) (hc : CurB w g A m c bs) :
    Calls Tryz.prog 64 #[.pointer (some ⟨g, 0, none⟩), .int .i64 lo, .int .i64 hi] w fun e w' => ∃ x : Int, lo ≤ x ∧ x ≤ hi ∧ e = .returned (.int .i64 x) ∧ CurB w' g A m c bs ∧ w.grownBy w' (some g) := by
  go_enter Tryz.func64, Tryz.ntmps64
  go_wp2_with fail
  refine (l1BelowC g A m c bs (hi - lo + 1) _ (by omega) (by omega) hc).mono ?_
  rintro e w1 ⟨x, hx, rfl, hc1, hg1⟩
  go_wp2
  go_ret
  exact ⟨lo + (x : Int), by omega, by omega, rfl, hc1, hg1⟩
theorem l1SomeW (g : Nat) (A : Option Addr) (m c : Nat) (bs : List Int) (lo hi : Int) (w : World) (h0 : -1000 ≤ lo) (h1 : 256 ≤ hi - lo) (h3 : hi ≤ 1000) (hc : CurB w g A m c bs) :
    Calls Tryz.prog 64 #[.pointer (some ⟨g, 0, none⟩), .int .i64 lo, .int .i64 hi] w fun e w' => ∃ x : Int, lo ≤ x ∧ x ≤ hi ∧ e = .returned (.int .i64 x) ∧ CurB w' g A m c bs ∧ w.grownBy w' (some g) := by
  go_enter Tryz.func64, Tryz.ntmps64
  go_wp2_with fail
  refine (l1BelowW g A m c bs (hi - lo + 1) _ (by omega) (by omega) hc).mono ?_
  rintro e w1 ⟨x, hx, rfl, hc1, hg1⟩
  go_wp2
  go_ret
  exact ⟨lo + (x : Int), by omega, by omega, rfl, hc1, hg1⟩

def speedOk (p : Nat × Nat) : Prop := okW p.1 = true ∧ okW p.2 = true
set_option maxHeartbeats 1000000 in
theorem l5SpeedC (g : Nat) (A : Option Addr) (m c : Nat) (bs : List Int) (w : World) (hc : CurB w g A m c bs) :
    Calls Tryz.prog 69 #[.pointer (some ⟨g, 0, none⟩)] w fun e w' => ∃ p : Nat × Nat, speedOk p ∧ e = .returned (.complex .f32 p.1 p.2) ∧ CurB w' g A m c bs ∧ w.grownBy w' (some g) := by
  go_enter Tryz.func69, Tryz.ntmps69
  go_wp2_with fail
  refine (l1SomeN g A m c bs (-40) 40 _ (by omega) (by omega) (by omega) (by omega) hc).mono ?_
  rintro e w1 ⟨x, x0, x1, rfl, hc1, hg1⟩
  obtain ⟨q1, q2, _⟩ := quoOk_spec (at_shift quo8_all rfl (by omega) x0 x1)
  have Q2 := Lib.hid q2
  obtain ⟨r, hr⟩ : ∃ r, r = quoW x 1090519040 := ⟨_, rfl⟩
  rw [← hr] at q1 Q2
  have hq := fun wx => run_float_arith (P := Tryz.prog) wx .quo 24 .f32 (fl x) 1090519040 r q1
  unfold fl at hq
  clear q1 q2 hr
  go_wp2_with fail
  refine (l1SomeN g A m c bs (-40) 40 _ (by omega) (by omega) (by omega) (by omega) hc1).mono ?_
  rintro e w2 ⟨y, y0, y1, rfl, hc2, hg2⟩
  obtain ⟨q1, q2, _⟩ := quoOk_spec (at_shift quo10_all rfl (by omega) y0 y1)
  have Q3 := Lib.hid q2
  obtain ⟨s, hs⟩ : ∃ r, r = quoW y 1092616192 := ⟨_, rfl⟩
  rw [← hs] at q1 Q3
  have hq2 := fun wx => run_float_arith (P := Tryz.prog) wx .quo 24 .f32 (fl y) 1092616192 s q1
  unfold fl at hq2
  clear q1 q2 hs
  go_wp2
  go_ret
  exact ⟨(r, s), ⟨Q2.out, Q3.out⟩, rfl, hc2, grown_trans hg1 hg2⟩
def fineOk (x : Nat) : Prop := okW x = true ∧ okW (Go.Op.negFloat .f32 x) = true
set_option maxHeartbeats 2000000 in
theorem l1FineC (g : Nat) (A : Option Addr) (m c : Nat) (bs : List Int) (w : World) (hc : CurB w g A m c bs) :
    Calls Tryz.prog 68 #[.pointer (some ⟨g, 0, none⟩)] w fun e w' => ∃ x : Nat, fineOk x ∧ e = .returned (.float .f32 x) ∧ CurB w' g A m c bs ∧ w.grownBy w' (some g) := by
  go_enter Tryz.func68, Tryz.ntmps68
  go_wp2_with fail
  refine (l1SomeW g A m c bs (-640) 640 _ (by omega) (by omega) (by omega) hc).mono ?_
  rintro e w1 ⟨a, a0, a1, rfl, hc1, hg1⟩
  go_wp2_with fail
  obtain ⟨W, hWe⟩ : ∃ W, W = w1.alloc (Obj.cells #[.float .f32 1065353216, .float .f32 1073741824, .float .f32 1098907648, .float .f32 1115684864, .float .f32 1120403456, .float .f32 1077936128] 24) := ⟨_, rfl⟩
  have hW : Below w1.heap.size w1 W := by rw [hWe]; (repeat (first | with_reducible assumption | exact Below.refl _ _ | (refine Below.setCell ?_ (by first | exact Nat.le_refl _ | (simp; done) | omega | (simp; omega)) _) | (refine below_drewN ?_ _) | (refine Below.drew ?_) | (refine Below.alloc ?_ (by first | exact Nat.le_refl _ | (simp; done) | omega | (simp; omega)) _) | (refine then_ ?_ (by with_reducible assumption)) | assumption | (refine then_ ?_ (by assumption))))
  have zW : w1.heap.size < W.heap.size := by rw [hWe]; simp
  have q0 : W.cell? ⟨w1.heap.size, 0, none⟩ = some (.float .f32 1065353216) := by rw [hWe]; simp [go_sem]
  have q1 : W.cell? ⟨w1.heap.size, 1, none⟩ = some (.float .f32 1073741824) := by rw [hWe]; simp [go_sem]
  have q2 : W.cell? ⟨w1.heap.size, 2, none⟩ = some (.float .f32 1098907648) := by rw [hWe]; simp [go_sem]
  have q3 : W.cell? ⟨w1.heap.size, 3, none⟩ = some (.float .f32 1115684864) := by rw [hWe]; simp [go_sem]
  have q4 : W.cell? ⟨w1.heap.size, 4, none⟩ = some (.float .f32 1120403456) := by rw [hWe]; simp [go_sem]
  have q5 : W.cell? ⟨w1.heap.size, 5, none⟩ = some (.float .f32 1077936128) := by rw [hWe]; simp [go_sem]
  rw [← hWe]
  clear hWe
  have hne : w1.heap.size ≠ g := by have := hc1.2.2.1; omega
  refine (l1BelowC g A m c bs 6 _ (by omega) (by omega) (hc1.step hW)).mono ?_
  rintro e w2 ⟨y, hy, rfl, hc2, hg2⟩
  have hk := fun o => (gcell hg2).1 w1.heap.size o zW hne
  have c0 := (hk 0).trans q0
  have c1 := (hk 1).trans q1
  have c2 := (hk 2).trans q2
  have c3 := (hk 3).trans q3
  have c4 := (hk 4).trans q4
  have c5 := (hk 5).trans q5
  have G2 := grown_trans (grown_trans hg1 (grown_of_below hW (some g))) hg2
  clear q0 q1 q2 q3 q4 q5 hk hg1 hW hc1 hg2
  obtain ⟨d, hd, hcell⟩ : ∃ d, quoOk a d = true ∧ w2.cell? ⟨w1.heap.size, y, none⟩ = some (.float .f32 d) := by
    have e : y = 0 ∨ y = 1 ∨ y = 2 ∨ y = 3 ∨ y = 4 ∨ y = 5 := by omega
    rcases e with rfl | rfl | rfl | rfl | rfl | rfl
    · exact ⟨_, at_shift fine_1 rfl (by omega) a0 a1, c0⟩
    · exact ⟨_, at_shift fine_2 rfl (by omega) a0 a1, c1⟩
    · exact ⟨_, at_shift fine_16 rfl (by omega) a0 a1, c2⟩
    · exact ⟨_, at_shift fine_64 rfl (by omega) a0 a1, c3⟩
    · exact ⟨_, at_shift fine_100 rfl (by omega) a0 a1, c4⟩
    · exact ⟨_, at_shift fine_3 rfl (by omega) a0 a1, c5⟩
  obtain ⟨q1, q2, q3⟩ := quoOk_spec hd
  have Q2 := Lib.hid (show fineOk (quoW a d) from ⟨q2, q3⟩)
  obtain ⟨r, hr⟩ : ∃ r, r = quoW a d := ⟨_, rfl⟩
  rw [← hr] at q1 Q2
  have hq := fun wx => run_float_arith (P := Tryz.prog) wx .quo 24 .f32 (fl a) d r q1
  unfold fl at hq
  clear q1 q2 q3 hr c0 c1 c2 c3 c4 c5 hd
  have hy6 : (y : Int) < 6 := hy
  have hy0 : (0 : Int) ≤ (y : Int) := by omega
  go_wp2
  go_ret
  exact ⟨r, Q2.out, rfl, hc2, G2⟩
theorem run_neg_f32 {P : Program} (x : Nat) (w : World) : (Op.unary .neg (.float .f32 x)).run P w = .ok (.float .f32 (Go.Op.negFloat .f32 x)) w := rfl
theorem fine_zero : okW 0 = true := by decide +kernel
set_option maxHeartbeats 2000000 in
theorem l1PointC (g : Nat) (A : Option Addr) (m c : Nat) (bs : List Int) (w : World) (hc : CurB w g A m c bs) :
    Calls Tryz.prog 44 #[.pointer (some ⟨g, 0, none⟩)] w fun e w' => ∃ p : Nat × Nat, speedOk p ∧ e = .returned (.complex .f32 p.1 p.2) ∧ CurB w' g A m c bs ∧ w.grownBy w' (some g) := by
  go_enter Tryz.func44, Tryz.ntmps44
  go_wp2_with fail
  refine (l1FineC g A m c bs _ hc).mono ?_
  rintro e w1 ⟨x, hx, rfl, hc1, hg1⟩
  have HX := Lib.hid hx
  clear hx
  go_wp2_with fail
  refine (l1BelowC g A m c bs 7 _ (by omega) (by omega) hc1).mono ?_
  rintro e w2 ⟨y, hy, rfl, hc2, hg2⟩
  have G2 := grown_trans hg1 hg2
  by_cases y0 : y = 0
  · subst y0
    go_wp2
    go_ret
    exact ⟨(x, 0), ⟨HX.out.1, fine_zero⟩, rfl, hc2, G2⟩
  by_cases y1 : y = 1
  · subst y1
    go_wp2
    go_ret
    exact ⟨(0, x), ⟨fine_zero, HX.out.1⟩, rfl, hc2, G2⟩
  by_cases y2 : y = 2
  · subst y2
    go_wp2
    go_ret
    exact ⟨(x, x), ⟨HX.out.1, HX.out.1⟩, rfl, hc2, G2⟩
  by_cases y3 : y = 3
  · subst y3
    have hneg := fun wx => run_neg_f32 (P := Tryz.prog) x wx
    go_wp2
    go_ret
    exact ⟨(x, Go.Op.negFloat .f32 x), ⟨HX.out.1, HX.out.2⟩, rfl, hc2, G2⟩
  have n0 : ¬ (y : Int) = 0 := by omega
  have n1 : ¬ (y : Int) = 1 := by omega
  have n2 : ¬ (y : Int) = 2 := by omega
  have n3 : ¬ (y : Int) = 3 := by omega
  go_wp2_with fail
  refine (l1FineC g A m c bs _ hc2).mono ?_
  rintro e w3 ⟨z, hz, rfl, hc3, hg3⟩
  have HZ := Lib.hid hz
  clear hz
  go_wp2
  go_ret
  exact ⟨(x, z), ⟨HX.out.1, HZ.out.1⟩, rfl, hc3, grown_trans G2 hg3⟩
end Go.Proofs.YthlphmojldbpkaaGreat

/- l1Fine, of which a sixteenth is taken. -/
namespace Go.Proofs.YthlphmojldbpkaaGreat
open Go.RowKit
attribute [local go_sem] run_store_float run_store_complex

set_option maxHeartbeats 2000000 in
theorem l1Fine16C (g : Nat) (A : Option Addr) (m c : Nat) (bs : List Int) (w : World) (hc : CurB w g A m c bs) :
    Calls Tryz.prog 68 #[.pointer (some ⟨g, 0, none⟩)] w fun e w' => ∃ x : Nat, sixOk x = true ∧ e = .returned (.float .f32 x) ∧ CurB w' g A m c bs ∧ w.grownBy w' (some g) := by
  go_enter Tryz.func68, Tryz.ntmps68
  go_wp2_with fail
  refine (l1SomeW g A m c bs (-640) 640 _ (by omega) (by omega) (by omega) hc).mono ?_
  rintro e w1 ⟨a, a0, a1, rfl, hc1, hg1⟩
  go_wp2_with fail
  obtain ⟨W, hWe⟩ : ∃ W, W = w1.alloc (Obj.cells #[.float .f32 1065353216, .float .f32 1073741824, .float .f32 1098907648, .float .f32 1115684864, .float .f32 1120403456, .float .f32 1077936128] 24) := ⟨_, rfl⟩
  have hW : Below w1.heap.size w1 W := by rw [hWe]; (repeat (first | with_reducible assumption | exact Below.refl _ _ | (refine Below.setCell ?_ (by first | exact Nat.le_refl _ | (simp; done) | omega | (simp; omega)) _) | (refine below_drewN ?_ _) | (refine Below.drew ?_) | (refine Below.alloc ?_ (by first | exact Nat.le_refl _ | (simp; done) | omega | (simp; omega)) _) | (refine then_ ?_ (by with_reducible assumption)) | assumption | (refine then_ ?_ (by assumption))))
  have zW : w1.heap.size < W.heap.size := by rw [hWe]; simp
  have q0 : W.cell? ⟨w1.heap.size, 0, none⟩ = some (.float .f32 1065353216) := by rw [hWe]; simp [go_sem]
  have q1 : W.cell? ⟨w1.heap.size, 1, none⟩ = some (.float .f32 1073741824) := by rw [hWe]; simp [go_sem]
  have q2 : W.cell? ⟨w1.heap.size, 2, none⟩ = some (.float .f32 1098907648) := by rw [hWe]; simp [go_sem]
  have q3 : W.cell? ⟨w1.heap.size, 3, none⟩ = some (.float .f32 1115684864) := by rw [hWe]; simp [go_sem]
  have q4 : W.cell? ⟨w1.heap.size, 4, none⟩ = some (.float .f32 1120403456) := by rw [hWe]; simp [go_sem]
  have q5 : W.cell? ⟨w1.heap.size, 5, none⟩ = some (.float .f32 1077936128) := by rw [hWe]; simp [go_sem]
  rw [← hWe]
  clear hWe
  have hne : w1.heap.size ≠ g := by have := hc1.2.2.1; omega
  refine (l1BelowC g A m c bs 6 _ (by omega) (by omega) (hc1.step hW)).mono ?_
  rintro e w2 ⟨y, hy, rfl, hc2, hg2⟩
  have hk := fun o => (gcell hg2).1 w1.heap.size o zW hne
  have c0 := (hk 0).trans q0
  have c1 := (hk 1).trans q1
  have c2 := (hk 2).trans q2
  have c3 := (hk 3).trans q3
  have c4 := (hk 4).trans q4
  have c5 := (hk 5).trans q5
  have G2 := grown_trans (grown_trans hg1 (grown_of_below hW (some g))) hg2
  clear q0 q1 q2 q3 q4 q5 hk hg1 hW hc1 hg2
  obtain ⟨d, ⟨hd, hs⟩, hcell⟩ : ∃ d, (quoOk a d = true ∧ sixOk (quoW a d) = true) ∧ w2.cell? ⟨w1.heap.size, y, none⟩ = some (.float .f32 d) := by
    have e : y = 0 ∨ y = 1 ∨ y = 2 ∨ y = 3 ∨ y = 4 ∨ y = 5 := by omega
    rcases e with rfl | rfl | rfl | rfl | rfl | rfl
    · exact ⟨_, six_at six_1 (by omega) a0 a1, c0⟩
    · exact ⟨_, six_at six_2 (by omega) a0 a1, c1⟩
    · exact ⟨_, six_at six_16 (by omega) a0 a1, c2⟩
    · exact ⟨_, six_at six_64 (by omega) a0 a1, c3⟩
    · exact ⟨_, six_at six_100 (by omega) a0 a1, c4⟩
    · exact ⟨_, six_at six_3 (by omega) a0 a1, c5⟩
  obtain ⟨q1, q2, q3⟩ := quoOk_spec hd
  have Q2 := Lib.hid hs
  obtain ⟨r, hr⟩ : ∃ r, r = quoW a d := ⟨_, rfl⟩
  rw [← hr] at q1 Q2
  have hq := fun wx => run_float_arith (P := Tryz.prog) wx .quo 24 .f32 (fl a) d r q1
  unfold fl at hq
  clear q1 q2 q3 hs hr c0 c1 c2 c3 c4 c5 hd
  have hy6 : (y : Int) < 6 := hy
  have hy0 : (0 : Int) ≤ (y : Int) := by omega
  go_wp2
  go_ret
  exact ⟨r, Q2.out, rfl, hc2, G2⟩
end Go.Proofs.YthlphmojldbpkaaGreat

/- The draw of a tumble. -/
namespace Go.Proofs.YthlphmojldbpkaaGreat
open Go.RowKit
attribute [local go_sem] run_store_float run_store_complex

set_option maxHeartbeats 1000000 in
/-- one of a list of numbers -/
theorem l1IntC (P : Int → Prop) (g b n k : Nat) (A : Option Addr) (m c : Nat) (bs : List Int) (w : World) (hc : CurB w g A m c bs) (hn1 : 1 ≤ n) (hn : n ≤ 256) (hb : b < w.heap.size) (hne : b ≠ g) (hx : ∀ y, y < n → ∃ x, P x ∧ w.cell? ⟨b, y, none⟩ = some (.int .i64 x)) :
    Calls Tryz.prog 66 #[.pointer (some ⟨g, 0, none⟩), .slice (some ⟨b, 0, none⟩) n k] w fun e w' => ∃ x, P x ∧ e = .returned (.int .i64 x) ∧ CurB w' g A m c bs ∧ w.grownBy w' (some g) := by
  go_enter Tryz.func66, Tryz.ntmps66
  go_wp2_with fail
  refine (l1BelowC g A m c bs n _ (by omega) (by omega) hc).mono ?_
  rintro e w1 ⟨y, hy, rfl, hc1, hg1⟩
  obtain ⟨x, px, cx⟩ := hx y (by omega)
  have cx := ((gcell hg1).1 b y hb hne).trans cx
  have PX := Lib.hid px
  have hy0 : (0 : Int) ≤ (y : Int) := by omega
  clear hx px
  go_wp2
  go_ret
  exact ⟨x, PX.out, rfl, hc1, hg1⟩

theorem okW_reach {x : Nat} (h : okW x = true) : reachB x = true := by unfold okW at h; rw [Bool.and_eq_true] at h; exact h.1
theorem speed_point {p : Nat × Nat} (h : speedOk p) : pointB p.1 p.2 = true := by
  unfold pointB; rw [okW_reach h.1, okW_reach h.2]; rfl

end Go.Proofs.YthlphmojldbpkaaGreat

/- l3Draw: a piece of glass. -/
namespace Go.Proofs.YthlphmojldbpkaaGreat
open Go.RowKit
attribute [local go_sem] run_store_float run_store_complex

theorem quo4_all : ∀ k : Nat, k < 65 → quoOk ((k : Int) - 32) 1082130432 = true := by decide +kernel
theorem sum4_all : ∀ k : Nat, k < 65 → ∀ j : Nat, j < 49 → reachB (addB (quoW ((k : Int) - 32) 1082130432) (quoW ((j : Int) - 24) 1082130432)) = true := by decide +kernel
theorem sum4 {x y : Int} (h1 : -32 ≤ x) (h2 : x ≤ 32) (h3 : -24 ≤ y) (h4 : y ≤ 24) : reachB (addB (quoW x 1082130432) (quoW y 1082130432)) = true := by
  have := sum4_all (x + 32).toNat (by omega) (y + 24).toNat (by omega)
  have e1 : (((x + 32).toNat : Nat) : Int) - 32 = x := by omega
  have e2 : (((y + 24).toNat : Nat) : Int) - 24 = y := by omega
  rw [e1, e2] at this
  exact this

set_option maxRecDepth 100000 in
set_option maxHeartbeats 8000000 in
theorem l3DrawC (g : Nat) (A : Option Addr) (m c : Nat) (bs : List Int) (w : World) (hc : CurB w g A m c bs) :
    Calls Tryz.prog 67 #[.pointer (some ⟨g, 0, none⟩)] w fun e w' => ∃ (a b d : Pt) (r q l k : Nat), okSh (a, b, d, (r, q, l), k) = true ∧ e = .returned (.agg #[.complex .f32 a.1 a.2, .complex .f32 b.1 b.2, .complex .f32 d.1 d.2, .float .f32 r, .float .f32 q, .float .f32 l, .float .f32 k]) ∧ CurB w' g A m c bs ∧ w.grownBy w' (some g) := by
  have hgw := hc.2.2.1
  go_enter Tryz.func67, Tryz.ntmps67
  go_wp2_with fail
  obtain ⟨W, hWe⟩ : ∃ W, W = w.alloc (Obj.cells #[.complex .f32 0 0, .complex .f32 0 0, .complex .f32 0 0, .float .f32 0, .float .f32 0, .float .f32 0, .float .f32 0] 36) := ⟨_, rfl⟩
  have hW : Below w.heap.size w W := by rw [hWe]; (repeat (first | with_reducible assumption | exact Below.refl _ _ | (refine Below.setCell ?_ (by first | exact Nat.le_refl _ | (simp; done) | omega | (simp; omega)) _) | (refine below_drewN ?_ _) | (refine Below.drew ?_) | (refine Below.alloc ?_ (by first | exact Nat.le_refl _ | (simp; done) | omega | (simp; omega)) _) | (refine then_ ?_ (by with_reducible assumption)) | assumption | (refine then_ ?_ (by assumption))))
  have zW : w.heap.size < W.heap.size := by rw [hWe]; simp
  have d0 : W.cell? ⟨w.heap.size, 0, none⟩ = some (.complex .f32 0 0) := by rw [hWe]; simp [go_sem]
  have d1 : W.cell? ⟨w.heap.size, 1, none⟩ = some (.complex .f32 0 0) := by rw [hWe]; simp [go_sem]
  have d2 : W.cell? ⟨w.heap.size, 2, none⟩ = some (.complex .f32 0 0) := by rw [hWe]; simp [go_sem]
  have d3 : W.cell? ⟨w.heap.size, 3, none⟩ = some (.float .f32 0) := by rw [hWe]; simp [go_sem]
  have d4 : W.cell? ⟨w.heap.size, 4, none⟩ = some (.float .f32 0) := by rw [hWe]; simp [go_sem]
  have d5 : W.cell? ⟨w.heap.size, 5, none⟩ = some (.float .f32 0) := by rw [hWe]; simp [go_sem]
  have d6 : W.cell? ⟨w.heap.size, 6, none⟩ = some (.float .f32 0) := by rw [hWe]; simp [go_sem]
  have df : ∀ j, W.frozen? ⟨w.heap.size, j, none⟩ = false := by intro j; rw [hWe]; simp [go_sem]
  have hne : w.heap.size ≠ g := by omega
  have G0 := grown_of_below hW (some g)
  have GW := World.grownBy.refl W (some g)
  have hc0 := hc.step hW
  rw [← hWe]
  clear hWe hc
  (with_reducible refine (l1SomeN g A m c bs (-32) 32 _ (by omega) (by omega) (by omega) (by omega) hc0).mono ?_)
  rintro e w1 ⟨x1, x10, x11, rfl, hc1, hg⟩
  have GW := grown_trans GW hg
  obtain ⟨k1, k2, _⟩ := quoOk_spec (at_shift quo4_all rfl (by omega) (show (-32 : Int) ≤ x1 by omega) (show x1 ≤ 32 by omega))
  obtain ⟨x1r, hx1r⟩ : ∃ r, r = quoW x1 1082130432 := ⟨_, rfl⟩
  have Qx1 := Lib.hid (okW_reach k2)
  have Hx1 := Lib.hid hx1r
  rw [← hx1r] at k1 Qx1
  have qx1 := fun wx => run_float_arith (P := Tryz.prog) wx .quo 24 .f32 (fl x1) 1082130432 x1r k1
  unfold fl at qx1
  clear k1 k2 hx1r hc0 hg
  go_wp2_with fail
  (with_reducible refine (l1SomeN g A m c bs (-32) 32 _ (by omega) (by omega) (by omega) (by omega) hc1).mono ?_)
  rintro e w2 ⟨y1, y10, y11, rfl, hc2, hg⟩
  have GW := grown_trans GW hg
  obtain ⟨k1, k2, _⟩ := quoOk_spec (at_shift quo4_all rfl (by omega) (show (-32 : Int) ≤ y1 by omega) (show y1 ≤ 32 by omega))
  obtain ⟨y1r, hy1r⟩ : ∃ r, r = quoW y1 1082130432 := ⟨_, rfl⟩
  have Qy1 := Lib.hid (okW_reach k2)
  have Hy1 := Lib.hid hy1r
  rw [← hy1r] at k1 Qy1
  have qy1 := fun wx => run_float_arith (P := Tryz.prog) wx .quo 24 .f32 (fl y1) 1082130432 y1r k1
  unfold fl at qy1
  clear k1 k2 hy1r hc1 hg
  go_wp2_with fail
  (with_reducible refine (l1SomeN g A m c bs (-24) 24 _ (by omega) (by omega) (by omega) (by omega) hc2).mono ?_)
  rintro e w3 ⟨x2, x20, x21, rfl, hc3, hg⟩
  have GW := grown_trans GW hg
  obtain ⟨k1, k2, _⟩ := quoOk_spec (at_shift quo4_all rfl (by omega) (show (-32 : Int) ≤ x2 by omega) (show x2 ≤ 32 by omega))
  obtain ⟨x2r, hx2r⟩ : ∃ r, r = quoW x2 1082130432 := ⟨_, rfl⟩
  have Qx2 := Lib.hid (okW_reach k2)
  have Hx2 := Lib.hid hx2r
  rw [← hx2r] at k1 Qx2
  have qx2 := fun wx => run_float_arith (P := Tryz.prog) wx .quo 24 .f32 (fl x2) 1082130432 x2r k1
  unfold fl at qx2
  clear k1 k2 hx2r hc2 hg
  go_wp2_with fail
  (with_reducible refine (l1SomeN g A m c bs (-24) 24 _ (by omega) (by omega) (by omega) (by omega) hc3).mono ?_)
  rintro e w4 ⟨y2, y20, y21, rfl, hc4, hg⟩
  have GW := grown_trans GW hg
  obtain ⟨k1, k2, _⟩ := quoOk_spec (at_shift quo4_all rfl (by omega) (show (-32 : Int) ≤ y2 by omega) (show y2 ≤ 32 by omega))
  obtain ⟨y2r, hy2r⟩ : ∃ r, r = quoW y2 1082130432 := ⟨_, rfl⟩
  have Qy2 := Lib.hid (okW_reach k2)
  have Hy2 := Lib.hid hy2r
  rw [← hy2r] at k1 Qy2
  have qy2 := fun wx => run_float_arith (P := Tryz.prog) wx .quo 24 .f32 (fl y2) 1082130432 y2r k1
  unfold fl at qy2
  clear k1 k2 hy2r hc3 hg
  go_wp2_with fail
  obtain ⟨B, hB⟩ : ∃ P, P = plusP (x1r, y1r) (x2r, y2r) := ⟨_, rfl⟩
  have kB := fun w => specPlus_any (x1r, y1r) (x2r, y2r) w
  rw [← hB] at kB
  have QB := Lib.hid (show pointB B.1 B.2 = true by rw [hB]; unfold pointB plusP; dsimp only; rw [Hx1.out, Hy1.out, Hx2.out, Hy2.out, sum4 x10 x11 x20 x21, sum4 y10 y11 y20 y21]; rfl)
  (with_reducible refine (kB _).mono ?_)
  clear hB kB
  rintro e w' ⟨rfl, n1, rfl⟩
  have hc5 := CurB.step hc4 (below_drewN (Below.refl _ _) n1)
  have GW := grown_drewN GW n1
  clear hc4
  go_wp2_with fail
  (with_reducible refine (l1SomeN g A m c bs (-24) 24 _ (by omega) (by omega) (by omega) (by omega) hc5).mono ?_)
  rintro e w6 ⟨x3, x30, x31, rfl, hc6, hg⟩
  have GW := grown_trans GW hg
  obtain ⟨k1, k2, _⟩ := quoOk_spec (at_shift quo4_all rfl (by omega) (show (-32 : Int) ≤ x3 by omega) (show x3 ≤ 32 by omega))
  obtain ⟨x3r, hx3r⟩ : ∃ r, r = quoW x3 1082130432 := ⟨_, rfl⟩
  have Qx3 := Lib.hid (okW_reach k2)
  have Hx3 := Lib.hid hx3r
  rw [← hx3r] at k1 Qx3
  have qx3 := fun wx => run_float_arith (P := Tryz.prog) wx .quo 24 .f32 (fl x3) 1082130432 x3r k1
  unfold fl at qx3
  clear k1 k2 hx3r hc5 hg
  go_wp2_with fail
  (with_reducible refine (l1SomeN g A m c bs (-24) 24 _ (by omega) (by omega) (by omega) (by omega) hc6).mono ?_)
  rintro e w7 ⟨y3, y30, y31, rfl, hc7, hg⟩
  have GW := grown_trans GW hg
  obtain ⟨k1, k2, _⟩ := quoOk_spec (at_shift quo4_all rfl (by omega) (show (-32 : Int) ≤ y3 by omega) (show y3 ≤ 32 by omega))
  obtain ⟨y3r, hy3r⟩ : ∃ r, r = quoW y3 1082130432 := ⟨_, rfl⟩
  have Qy3 := Lib.hid (okW_reach k2)
  have Hy3 := Lib.hid hy3r
  rw [← hy3r] at k1 Qy3
  have qy3 := fun wx => run_float_arith (P := Tryz.prog) wx .quo 24 .f32 (fl y3) 1082130432 y3r k1
  unfold fl at qy3
  clear k1 k2 hy3r hc6 hg
  go_wp2_with fail
  obtain ⟨D, hD⟩ : ∃ P, P = plusP (x1r, y1r) (x3r, y3r) := ⟨_, rfl⟩
  have kD := fun w => specPlus_any (x1r, y1r) (x3r, y3r) w
  rw [← hD] at kD
  have QD := Lib.hid (show pointB D.1 D.2 = true by rw [hD]; unfold pointB plusP; dsimp only; rw [Hx1.out, Hy1.out, Hx3.out, Hy3.out, sum4 x10 x11 x30 x31, sum4 y10 y11 y30 y31]; rfl)
  (with_reducible refine (kD _).mono ?_)
  clear hD kD
  rintro e w' ⟨rfl, n2, rfl⟩
  have hc8 := CurB.step hc7 (below_drewN (Below.refl _ _) n2)
  have GW := grown_drewN GW n2
  clear hc7
  go_wp2_with fail
  (with_reducible refine (l2DrawC g A m c bs _ hc8).mono ?_)
  rintro e wa ⟨cr, cg, cl, hcol, rfl, hca, hg⟩
  have GW := grown_trans GW hg
  have HCOL := Lib.hid hcol
  clear hc8 hg hcol
  go_wp2_with fail
  (with_reducible refine (l2OneC g A m c bs _ hca).mono ?_)
  rintro e wb ⟨ck, hck, rfl, hcb, hg⟩
  have GW := grown_trans GW hg
  have HCK := Lib.hid hck
  clear hca hg hck
  go_wp2_with fail
  obtain ⟨V, hVe⟩ : ∃ V, V = wb.alloc (Obj.cells #[.complex .f32 x1r y1r, .complex .f32 B.1 B.2, .complex .f32 D.1 D.2, .float .f32 cr, .float .f32 cg, .float .f32 cl, .float .f32 ck] 36) := ⟨_, rfl⟩
  have hV : Below wb.heap.size wb V := by rw [hVe]; (repeat (first | with_reducible assumption | exact Below.refl _ _ | (refine Below.setCell ?_ (by first | exact Nat.le_refl _ | (simp; done) | omega | (simp; omega)) _) | (refine below_drewN ?_ _) | (refine Below.drew ?_) | (refine Below.alloc ?_ (by first | exact Nat.le_refl _ | (simp; done) | omega | (simp; omega)) _) | (refine then_ ?_ (by with_reducible assumption)) | assumption | (refine then_ ?_ (by assumption))))
  have zb : W.heap.size ≤ wb.heap.size := GW.size
  have zV : wb.heap.size < V.heap.size := by rw [hVe]; simp
  have hneb : wb.heap.size ≠ g := by omega
  have s0 : V.cell? ⟨wb.heap.size, 0, none⟩ = some (.complex .f32 x1r y1r) := by rw [hVe]; simp [go_sem]
  have s1 : V.cell? ⟨wb.heap.size, 1, none⟩ = some (.complex .f32 B.1 B.2) := by rw [hVe]; simp [go_sem]
  have s2 : V.cell? ⟨wb.heap.size, 2, none⟩ = some (.complex .f32 D.1 D.2) := by rw [hVe]; simp [go_sem]
  have s3 : V.cell? ⟨wb.heap.size, 3, none⟩ = some (.float .f32 cr) := by rw [hVe]; simp [go_sem]
  have s4 : V.cell? ⟨wb.heap.size, 4, none⟩ = some (.float .f32 cg) := by rw [hVe]; simp [go_sem]
  have s5 : V.cell? ⟨wb.heap.size, 5, none⟩ = some (.float .f32 cl) := by rw [hVe]; simp [go_sem]
  have s6 : V.cell? ⟨wb.heap.size, 6, none⟩ = some (.float .f32 ck) := by rw [hVe]; simp [go_sem]
  have sf : ∀ j, V.frozen? ⟨wb.heap.size, j, none⟩ = false := by intro j; rw [hVe]; simp [go_sem]
  have GW := grown_trans GW (grown_of_below hV (some g))
  have hcV := hcb.step hV
  rw [← hVe]
  clear hVe hV hcb
  (with_reducible refine (l1OnceC g A m c bs 5 _ (by omega) (by omega) hcV).mono ?_)
  rintro e wc ⟨once, rfl, hcc, hg⟩
  have s0 := ((gcell hg).1 wb.heap.size 0 zV hneb).trans s0
  have s1 := ((gcell hg).1 wb.heap.size 1 zV hneb).trans s1
  have s2 := ((gcell hg).1 wb.heap.size 2 zV hneb).trans s2
  have s3 := ((gcell hg).1 wb.heap.size 3 zV hneb).trans s3
  have s4 := ((gcell hg).1 wb.heap.size 4 zV hneb).trans s4
  have s5 := ((gcell hg).1 wb.heap.size 5 zV hneb).trans s5
  have s6 := ((gcell hg).1 wb.heap.size 6 zV hneb).trans s6
  have sf := fun j => ((gcell hg).2 wb.heap.size j zV hneb).trans (sf j)
  have zc : wb.heap.size < wc.heap.size := by have := hg.size; omega
  have GW := grown_trans GW hg
  clear hg hcV
  have QA := Lib.hid (show pointB x1r y1r = true by unfold pointB; rw [Qx1.out, Qy1.out]; rfl)
  cases once
  · have d0 := ((gcell GW).1 w.heap.size 0 zW hne).trans d0
    have d1 := ((gcell GW).1 w.heap.size 1 zW hne).trans d1
    have d2 := ((gcell GW).1 w.heap.size 2 zW hne).trans d2
    have d3 := ((gcell GW).1 w.heap.size 3 zW hne).trans d3
    have d4 := ((gcell GW).1 w.heap.size 4 zW hne).trans d4
    have d5 := ((gcell GW).1 w.heap.size 5 zW hne).trans d5
    have d6 := ((gcell GW).1 w.heap.size 6 zW hne).trans d6
    have df := fun j => ((gcell GW).2 w.heap.size j zW hne).trans (df j)
    have f0 := df 0
    have f1 := df 1
    have f2 := df 2
    have f3 := df 3
    have f4 := df 4
    have f5 := df 5
    have f6 := df 6
    have lw : w.heap.size < wc.heap.size := World.block_lt_of_cell? _ _ d0
    have n1 : ¬ w.heap.size = wb.heap.size := by omega
    have n2 : ¬ wb.heap.size = w.heap.size := by omega
    go_wp2
    refine bodyPost_ret (v := .agg #[.complex .f32 x1r y1r, .complex .f32 B.1 B.2, .complex .f32 D.1 D.2, .float .f32 cr, .float .f32 cg, .float .f32 cl, .float .f32 ck]) (by simp [results, Tryz.results67, go_sem, d0, d1, d2, d3, d4, d5, d6]) rfl ⟨(x1r, y1r), B, D, cr, cg, cl, ck, ?_, rfl, curB_set (curB_set (curB_set (curB_set (curB_set (curB_set (curB_set (hcc) hgw _) hgw _) hgw _) hgw _) hgw _) hgw _) hgw _, grown_new (grown_new (grown_new (grown_new (grown_new (grown_new (grown_new (grown_trans G0 GW) (Nat.le_refl _) _) (Nat.le_refl _) _) (Nat.le_refl _) _) (Nat.le_refl _) _) (Nat.le_refl _) _) (Nat.le_refl _) _) (Nat.le_refl _) _⟩
    unfold okSh
    dsimp only
    rw [QA.out, QB.out, QD.out, HCOL.out, HCK.out]; rfl
  · go_wp2_with fail
    (with_reducible refine (l1PointC g A m c bs _ hcc).mono ?_)
    rintro e wd ⟨pt, hpt, rfl, hcd, hg⟩
    have HPT := Lib.hid (speed_point hpt)
    have s0 := ((gcell hg).1 wb.heap.size 0 zc hneb).trans s0
    have s1 := ((gcell hg).1 wb.heap.size 1 zc hneb).trans s1
    have s2 := ((gcell hg).1 wb.heap.size 2 zc hneb).trans s2
    have s3 := ((gcell hg).1 wb.heap.size 3 zc hneb).trans s3
    have s4 := ((gcell hg).1 wb.heap.size 4 zc hneb).trans s4
    have s5 := ((gcell hg).1 wb.heap.size 5 zc hneb).trans s5
    have s6 := ((gcell hg).1 wb.heap.size 6 zc hneb).trans s6
    have sf2 := ((gcell hg).2 wb.heap.size 2 zc hneb).trans (sf 2)
    have zd : wb.heap.size < wd.heap.size := by have := hg.size; omega
    have GW := grown_trans GW hg
    clear hg hcc hpt
    have d0 := ((gcell GW).1 w.heap.size 0 zW hne).trans d0
    have d1 := ((gcell GW).1 w.heap.size 1 zW hne).trans d1
    have d2 := ((gcell GW).1 w.heap.size 2 zW hne).trans d2
    have d3 := ((gcell GW).1 w.heap.size 3 zW hne).trans d3
    have d4 := ((gcell GW).1 w.heap.size 4 zW hne).trans d4
    have d5 := ((gcell GW).1 w.heap.size 5 zW hne).trans d5
    have d6 := ((gcell GW).1 w.heap.size 6 zW hne).trans d6
    have df := fun j => ((gcell GW).2 w.heap.size j zW hne).trans (df j)
    have f0 := df 0
    have f1 := df 1
    have f2 := df 2
    have f3 := df 3
    have f4 := df 4
    have f5 := df 5
    have f6 := df 6
    have lw : w.heap.size < wd.heap.size := World.block_lt_of_cell? _ _ d0
    have n1 : ¬ w.heap.size = wb.heap.size := by omega
    have n2 : ¬ wb.heap.size = w.heap.size := by omega
    have lb : w.heap.size ≤ wb.heap.size := by omega
    go_wp2
    refine bodyPost_ret (v := .agg #[.complex .f32 x1r y1r, .complex .f32 B.1 B.2, .complex .f32 pt.1 pt.2, .float .f32 cr, .float .f32 cg, .float .f32 cl, .float .f32 ck]) (by simp [results, Tryz.results67, go_sem, d0, d1, d2, d3, d4, d5, d6]) rfl ⟨(x1r, y1r), B, pt, cr, cg, cl, ck, ?_, rfl, curB_set (curB_set (curB_set (curB_set (curB_set (curB_set (curB_set (curB_set hcd (by show g < wb.heap.size; omega) _) hgw _) hgw _) hgw _) hgw _) hgw _) hgw _) hgw _, grown_new (grown_new (grown_new (grown_new (grown_new (grown_new (grown_new (grown_new (grown_trans G0 GW) lb _) (Nat.le_refl _) _) (Nat.le_refl _) _) (Nat.le_refl _) _) (Nat.le_refl _) _) (Nat.le_refl _) _) (Nat.le_refl _) _) (Nat.le_refl _) _⟩
    unfold okSh
    dsimp only
    rw [QA.out, QB.out, HPT.out, HCOL.out, HCK.out]; rfl
end Go.Proofs.YthlphmojldbpkaaGreat
