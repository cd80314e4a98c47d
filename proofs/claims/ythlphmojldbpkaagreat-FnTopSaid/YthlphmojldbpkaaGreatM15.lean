/- HapN · HapAny · SEq · SameT · EvEq · Small · SeenC -/
import Derived.Test.YthlphmojldbpkaaGreatM8
import Derived.Test.YthlphmojldbpkaaGreatM3
import Derived.Deep.QuietTactic
import Derived.BigQuiet
import Derived.Test.YthlphmojldbpkaaGreatHap
import Derived.Test.YthlphmojldbpkaaGreatHapP
import Derived.Test.YthlphmojldbpkaaGreatHapT
import Derived.Test.YthlphmojldbpkaaGreatHapA
import Derived.Test.YthlphmojldbpkaaGreatHapM
import Derived.Test.YthlphmojldbpkaaGreatHapW
import Derived.Test.YthlphmojldbpkaaGreatM0
import Derived.Laws.StructEq
import Derived.Test.YthlphmojldbpkaaGreatM1
import Derived.Test.YthlphmojldbpkaaGreatM6

/- happen: the program's, of a bead that is not there. -/
namespace Go.Proofs.YthlphmojldbpkaaGreat
open Go.RowKit
attribute [local go_sem] run_store_float run_store_complex


set_option maxRecDepth 100000 in
set_option maxHeartbeats 4000000 in
theorem happen_none (s : Shw) (e : Ev) (b2 : Bool) (h2 : (e.k == 2) = b2) (h6 : b2 = false → (e.k == 6) = true) (hn : ¬ e.n < (s.bs.length : Int)) (ht : hap s e = none) (A B L : Option Addr) (c d q base : Nat) (w : World) (hb : base ≤ w.heap.size) (own : OwnS w base s A B L c d q) :
    Calls Tryz.prog 33 #[.agg #[.int .i64 s.sz, .float .f32 s.st, .float .f32 s.li.1, .float .f32 s.li.2.1, .float .f32 s.li.2.2, .slice A s.sh.length c, .int .i64 s.mir, .complex .f32 s.gr.1 s.gr.2, .float .f32 s.loss, .slice B s.bs.length d, .int .i64 s.tk, .slice L s.log.length q], .agg #[.int .i64 e.k, .int .i64 e.n, .complex .f32 e.z.1 e.z.2, .complex .f32 e.s.1.1 e.s.1.2, .complex .f32 e.s.2.1.1 e.s.2.1.2, .complex .f32 e.s.2.2.1.1 e.s.2.2.1.2, .float .f32 e.s.2.2.2.1.1, .float .f32 e.s.2.2.2.1.2.1, .float .f32 e.s.2.2.2.1.2.2, .float .f32 e.s.2.2.2.2, .float .f32 e.c.1, .float .f32 e.c.2.1, .float .f32 e.c.2.2]] w fun r w' => HapI s e base (OwnB s A B L c d q) w.heap.size r w' ∧ BelF base (OwnB s A B L c d q) w w' := by
  have hge : decide ((s.bs.length : Int) ≤ e.n) = true := by simp; omega
  have hg : (s.bs.length : Int) ≤ e.n := by omega
  have HT := Lib.hid ht
  have OWN := Lib.hid own
  clear own ht hn
  go_enter Tryz.func33, Tryz.ntmps33
  go_upto_region 1 with fail
  have h := hs_new e hb OWN.out #[.int .i64 s.sz, .float .f32 s.st, .float .f32 s.li.1, .float .f32 s.li.2.1, .float .f32 s.li.2.2, .slice A s.sh.length c, .int .i64 s.mir, .complex .f32 s.gr.1 s.gr.2, .float .f32 s.loss, .slice B s.bs.length d, .int .i64 s.tk, .slice L s.log.length q] #[.int .i64 0, .float .f32 0, .float .f32 0, .float .f32 0, .float .f32 0, .slice none 0 0, .int .i64 0, .complex .f32 0 0, .float .f32 0, .slice none 0 0, .int .i64 0, .slice none 0 0] 34 38 34 rfl rfl #[.int .i64 e.k, .int .i64 e.n, .complex .f32 e.z.1 e.z.2, .complex .f32 e.s.1.1 e.s.1.2, .complex .f32 e.s.2.1.1 e.s.2.1.2, .complex .f32 e.s.2.2.1.1 e.s.2.2.1.2, .float .f32 e.s.2.2.2.1.1, .float .f32 e.s.2.2.2.1.2.1, .float .f32 e.s.2.2.2.1.2.2, .float .f32 e.s.2.2.2.2, .float .f32 e.c.1, .float .f32 e.c.2.1, .float .f32 e.c.2.2] rfl
  obtain ⟨W, hWe⟩ : ∃ W, W = ((w.alloc (Obj.cells #[.int .i64 s.sz, .float .f32 s.st, .float .f32 s.li.1, .float .f32 s.li.2.1, .float .f32 s.li.2.2, .slice A s.sh.length c, .int .i64 s.mir, .complex .f32 s.gr.1 s.gr.2, .float .f32 s.loss, .slice B s.bs.length d, .int .i64 s.tk, .slice L s.log.length q] 34)).alloc (Obj.cells #[.int .i64 e.k, .int .i64 e.n, .complex .f32 e.z.1 e.z.2, .complex .f32 e.s.1.1 e.s.1.2, .complex .f32 e.s.2.1.1 e.s.2.1.2, .complex .f32 e.s.2.2.1.1 e.s.2.2.1.2, .float .f32 e.s.2.2.2.1.1, .float .f32 e.s.2.2.2.1.2.1, .float .f32 e.s.2.2.2.1.2.2, .float .f32 e.s.2.2.2.2, .float .f32 e.c.1, .float .f32 e.c.2.1, .float .f32 e.c.2.2] 38)).alloc (Obj.cells #[.int .i64 0, .float .f32 0, .float .f32 0, .float .f32 0, .float .f32 0, .slice none 0 0, .int .i64 0, .complex .f32 0 0, .float .f32 0, .slice none 0 0, .int .i64 0, .slice none 0 0] 34) := ⟨_, rfl⟩
  rw [← hWe] at h
  rw [← hWe]
  clear hWe hb OWN
  have lx := h.lt
  have a0 := h.cx 0 _ rfl; have a1 := h.cx 1 _ rfl; have a2 := h.cx 2 _ rfl; have a3 := h.cx 3 _ rfl; have a4 := h.cx 4 _ rfl; have a5 := h.cx 5 _ rfl; have a6 := h.cx 6 _ rfl; have a7 := h.cx 7 _ rfl; have a8 := h.cx 8 _ rfl; have a9 := h.cx 9 _ rfl; have a10 := h.cx 10 _ rfl; have a11 := h.cx 11 _ rfl
  have y0 := h.cy 0 _ rfl; have y1 := h.cy 1 _ rfl; have y2 := h.cy 2 _ rfl; have y3 := h.cy 3 _ rfl; have y4 := h.cy 4 _ rfl; have y5 := h.cy 5 _ rfl; have y6 := h.cy 6 _ rfl; have y7 := h.cy 7 _ rfl; have y8 := h.cy 8 _ rfl; have y9 := h.cy 9 _ rfl; have y10 := h.cy 10 _ rfl; have y11 := h.cy 11 _ rfl; have y12 := h.cy 12 _ rfl
  go_upto_region 2 with fail
  cases b2
  · have k6 := h6 rfl
    clear h6
    have fo : FA W (w.heap.size + 1 + 1) := h.fo
    have o0 := h.co 0 _ rfl; have o1 := h.co 1 _ rfl; have o2 := h.co 2 _ rfl; have o3 := h.co 3 _ rfl; have o4 := h.co 4 _ rfl; have o5 := h.co 5 _ rfl; have o6 := h.co 6 _ rfl; have o7 := h.co 7 _ rfl; have o8 := h.co 8 _ rfl; have o9 := h.co 9 _ rfl; have o10 := h.co 10 _ rfl; have o11 := h.co 11 _ rfl
    have g0 := fo 0; have g1 := fo 1; have g2 := fo 2; have g3 := fo 3; have g4 := fo 4; have g5 := fo 5; have g6 := fo 6; have g7 := fo 7; have g8 := fo 8; have g9 := fo 9; have g10 := fo 10; have g11 := fo 11
    go_quiet (fail)
    go_wp2
    have hz := ((((((((((((h.drew_ nq).puto 0 (.int .i64 s.sz)).puto 1 (.float .f32 s.st)).puto 2 (.float .f32 s.li.1)).puto 3 (.float .f32 s.li.2.1)).puto 4 (.float .f32 s.li.2.2)).puto 5 (.slice A s.sh.length c)).puto 6 (.int .i64 s.mir)).puto 7 (.complex .f32 s.gr.1 s.gr.2)).puto 8 (.float .f32 s.loss)).puto 9 (.slice B s.bs.length d)).puto 10 (.int .i64 s.tk)).puto 11 (.slice L s.log.length q)
    have co : CA _ (w.heap.size + 1 + 1) _ := hz.co
    have bel := hz.bel
    clear hz
    have z0 := co 0 _ rfl; have z1 := co 1 _ rfl; have z2 := co 2 _ rfl; have z3 := co 3 _ rfl; have z4 := co 4 _ rfl; have z5 := co 5 _ rfl; have z6 := co 6 _ rfl; have z7 := co 7 _ rfl; have z8 := co 8 _ rfl; have z9 := co 9 _ rfl; have z10 := co 10 _ rfl; have z11 := co 11 _ rfl
    refine bodyPost_ret (v := .tuple #[.agg #[.int .i64 s.sz, .float .f32 s.st, .float .f32 s.li.1, .float .f32 s.li.2.1, .float .f32 s.li.2.2, .slice A s.sh.length c, .int .i64 s.mir, .complex .f32 s.gr.1 s.gr.2, .float .f32 s.loss, .slice B s.bs.length d, .int .i64 s.tk, .slice L s.log.length q], .bool false]) (by simp [results, Tryz.results33, go_sem, z0, z1, z2, z3, z4, z5, z6, z7, z8, z9, z10, z11]) rfl ⟨hapI_no HT.out rfl, bel⟩
  · have fo : FA W (w.heap.size + 1 + 1) := h.fo
    have o0 := h.co 0 _ rfl; have o1 := h.co 1 _ rfl; have o2 := h.co 2 _ rfl; have o3 := h.co 3 _ rfl; have o4 := h.co 4 _ rfl; have o5 := h.co 5 _ rfl; have o6 := h.co 6 _ rfl; have o7 := h.co 7 _ rfl; have o8 := h.co 8 _ rfl; have o9 := h.co 9 _ rfl; have o10 := h.co 10 _ rfl; have o11 := h.co 11 _ rfl
    have g0 := fo 0; have g1 := fo 1; have g2 := fo 2; have g3 := fo 3; have g4 := fo 4; have g5 := fo 5; have g6 := fo 6; have g7 := fo 7; have g8 := fo 8; have g9 := fo 9; have g10 := fo 10; have g11 := fo 11
    go_quiet (fail)
    go_wp2
    have hz := ((((((((((((h.drew_ nq).puto 0 (.int .i64 s.sz)).puto 1 (.float .f32 s.st)).puto 2 (.float .f32 s.li.1)).puto 3 (.float .f32 s.li.2.1)).puto 4 (.float .f32 s.li.2.2)).puto 5 (.slice A s.sh.length c)).puto 6 (.int .i64 s.mir)).puto 7 (.complex .f32 s.gr.1 s.gr.2)).puto 8 (.float .f32 s.loss)).puto 9 (.slice B s.bs.length d)).puto 10 (.int .i64 s.tk)).puto 11 (.slice L s.log.length q)
    have co : CA _ (w.heap.size + 1 + 1) _ := hz.co
    have bel := hz.bel
    clear hz
    have z0 := co 0 _ rfl; have z1 := co 1 _ rfl; have z2 := co 2 _ rfl; have z3 := co 3 _ rfl; have z4 := co 4 _ rfl; have z5 := co 5 _ rfl; have z6 := co 6 _ rfl; have z7 := co 7 _ rfl; have z8 := co 8 _ rfl; have z9 := co 9 _ rfl; have z10 := co 10 _ rfl; have z11 := co 11 _ rfl
    refine bodyPost_ret (v := .tuple #[.agg #[.int .i64 s.sz, .float .f32 s.st, .float .f32 s.li.1, .float .f32 s.li.2.1, .float .f32 s.li.2.2, .slice A s.sh.length c, .int .i64 s.mir, .complex .f32 s.gr.1 s.gr.2, .float .f32 s.loss, .slice B s.bs.length d, .int .i64 s.tk, .slice L s.log.length q], .bool false]) (by simp [results, Tryz.results33, go_sem, z0, z1, z2, z3, z4, z5, z6, z7, z8, z9, z10, z11]) rfl ⟨hapI_no HT.out rfl, bel⟩
end Go.Proofs.YthlphmojldbpkaaGreat

/- happen: the program's, of good shows and events, all together. -/
namespace Go.Proofs.YthlphmojldbpkaaGreat
open Go.RowKit

theorem happen_any (s : Shw) (e : Ev) (A B L : Option Addr) (c d q base : Nat) (w : World) (hg : Good s) (hk : okS s = true) (he : evR e = true) (hb : base ≤ w.heap.size) (own : OwnS w base s A B L c d q) :
    Calls Tryz.prog 33 #[.agg #[.int .i64 s.sz, .float .f32 s.st, .float .f32 s.li.1, .float .f32 s.li.2.1, .float .f32 s.li.2.2, .slice A s.sh.length c, .int .i64 s.mir, .complex .f32 s.gr.1 s.gr.2, .float .f32 s.loss, .slice B s.bs.length d, .int .i64 s.tk, .slice L s.log.length q], .agg #[.int .i64 e.k, .int .i64 e.n, .complex .f32 e.z.1 e.z.2, .complex .f32 e.s.1.1 e.s.1.2, .complex .f32 e.s.2.1.1 e.s.2.1.2, .complex .f32 e.s.2.2.1.1 e.s.2.2.1.2, .float .f32 e.s.2.2.2.1.1, .float .f32 e.s.2.2.2.1.2.1, .float .f32 e.s.2.2.2.1.2.2, .float .f32 e.s.2.2.2.2, .float .f32 e.c.1, .float .f32 e.c.2.1, .float .f32 e.c.2.2]] w fun r w' => HapI s e base (OwnB s A B L c d q) w.heap.size r w' ∧ BelF base (OwnB s A B L c d q) w w' := by
  obtain ⟨p1, p2, p3, p4⟩ := okS_parts.1 hk
  obtain ⟨t0, t1⟩ := inB_true p3
  have hl := hg.len
  cases e with
  | add x z => exact happen_add s _ x z rfl A B L c d q base w hb (by omega) (by omega) (by omega) own
  | light cl => exact happen_light s _ cl rfl A B L c d q base w hb (by omega) own
  | gravity z => exact happen_gravity s _ z rfl A B L c d q base w hb (by omega) own
  | mirrors n => exact happen_mirrors s _ rfl A B L c d q base w hb (by omega) (by omega) own
  | take n =>
    simp only [evR] at he
    obtain ⟨n0, n7⟩ := inB_true he
    by_cases hn : n < (s.bs.length : Int)
    · obtain ⟨i, rfl⟩ : ∃ i : Nat, n = (i : Int) := ⟨n.toNat, by omega⟩
      exact happen_take s _ i rfl A B L c d q base w hb (by omega) hl (by omega) (by omega) own
    · exact happen_none s (.take n) true rfl (fun h => by cases h) hn (by simp only [hap]; rw [if_neg hn]) A B L c d q base w hb own
  | push n z =>
    simp only [evR] at he
    obtain ⟨n0, n7⟩ := inB_true he
    by_cases hn : n < (s.bs.length : Int)
    · obtain ⟨i, rfl⟩ : ∃ i : Nat, n = (i : Int) := ⟨n.toNat, by omega⟩
      exact happen_push s _ i z rfl A B L c d q base w hb (by omega) (by omega) (by omega) own
    · exact happen_none s (.push n z) false rfl (fun _ => rfl) hn (by simp only [hap]; rw [if_neg hn]) A B L c d q base w hb own
  | wait n =>
    simp only [evR] at he
    obtain ⟨n1, n2⟩ := inB_true he
    obtain ⟨i, rfl⟩ : ∃ i : Nat, n = (i : Int) := ⟨n.toNat, by omega⟩
    exact happen_wait s _ i rfl (by omega) hg (ok_tum hg hk) t0 (by omega) A B L c d q base w hb p1 (by omega) own
end Go.Proofs.YthlphmojldbpkaaGreat

/- '==' on structs. -/
namespace Go.Proofs.YthlphmojldbpkaaGreat
open Go.RowKit

def colEqB (a b : Col) : Bool := eqB a.1 b.1 && eqB a.2.1 b.2.1 && eqB a.2.2 b.2.2

section
variable {P : Program} (w : World)
theorem run_equalIn_float (d : Nat) (t : TypeId) (k k' : FloatKind) (a b : Nat) (h : P.underlying t = some (.float k')) : (Op.equalIn (d + 1) t (.float k a) (.float k b)).run P w = .ok (k.format.order a b == some .eq) w := by
  simp [Op.equalIn, run_underlying h, Op.floatEq]
theorem run_equalIn_complex (d : Nat) (t : TypeId) (k k' : FloatKind) (a b a' b' : Nat) (h : P.underlying t = some (.complex k')) : (Op.equalIn (d + 1) t (.complex k a b) (.complex k a' b')).run P w = .ok ((k.format.order a a' == some .eq) && (k.format.order b b' == some .eq)) w := by
  simp [Op.equalIn, run_underlying h, Op.floatEq]
end

theorem colEq_fields (d : Nat) (r g b r' g' b' : Nat) (w : World) : (Op.eqFields (d + 1) #[.float .f32 r, .float .f32 g, .float .f32 b] #[.float .f32 r', .float .f32 g', .float .f32 b'] (Tryz.prog.fieldsOf 26).toList).run Tryz.prog w = .ok (colEqB (r, g, b) (r', g', b')) w := by
  have h : colEqB (r, g, b) (r', g', b') = ((FloatKind.f32.format.order r r' == some .eq) && ((FloatKind.f32.format.order g g' == some .eq) && (FloatKind.f32.format.order b b' == some .eq))) := by
    show (eqB r r' && eqB g g' && eqB b b') = (eqB r r' && (eqB g g' && eqB b b'))
    rw [Bool.and_assoc]
  rw [h]
  have k := fun wx d a b => run_equalIn_float (P := Tryz.prog) wx d 24 .f32 .f32 a b Tryz.underlying24
  cases h1 : (FloatKind.f32.format.order r r' == some .eq) <;> cases h2 : (FloatKind.f32.format.order g g' == some .eq) <;> cases h3 : (FloatKind.f32.format.order b b' == some .eq) <;> simp at h1 h2 h3 <;> simp [go_sem, Tryz.underlying26, k, h1, h2, h3]

theorem run_neq_col (r g b r' g' b' : Nat) (w : World) : (binOp .neq 26 (.agg #[.float .f32 r, .float .f32 g, .float .f32 b]) (.agg #[.float .f32 r', .float .f32 g', .float .f32 b'])).run Tryz.prog w = .ok (.bool (!(colEqB (r, g, b) (r', g', b')))) w := by
  rw [run_neq_struct]
  have ht : Tryz.prog.underlying 26 = some (.struct (Tryz.prog.fieldsOf 26)) := by kernel_rfl
  have hp : Tryz.prog.stoodInHeld 26 = false := by kernel_rfl
  rw [run_equalIn_agg (P := Tryz.prog) w 9999 26 _ _ ht hp, colEq_fields 9998]
  rfl

def sameCells (xs ys : List Col) : Bool := xs.length == ys.length && (List.zipWith colEqB xs ys).all id
def sameP (s1 : Int) (xs : List Col) (s2 : Int) (ys : List Col) : Bool := (s1 == s2) && sameCells xs ys

theorem sameCells_len {xs ys : List Col} (h : xs.length ≠ ys.length) : sameCells xs ys = false := by simp [sameCells, h]
theorem sameCells_no {xs ys : List Col} {i : Nat} {x y : Col} (hx : xs[i]? = some x) (hy : ys[i]? = some y) (h : colEqB x y = false) : sameCells xs ys = false := by
  have hz : (List.zipWith colEqB xs ys)[i]? = some false := by simp [List.getElem?_zipWith, hx, hy, h]
  unfold sameCells
  have hm := List.mem_of_getElem? hz
  have : (List.zipWith colEqB xs ys).all id = false := by
    rw [List.all_eq_false]
    exact ⟨false, hm, by simp⟩
  rw [this, Bool.and_false]
theorem sameCells_yes {xs ys : List Col} (hl : xs.length = ys.length) (h : ∀ (i : Nat) x y, xs[i]? = some x → ys[i]? = some y → colEqB x y = true) : sameCells xs ys = true := by
  unfold sameCells
  rw [beq_iff_eq.2 hl, Bool.true_and, List.all_eq_true]
  intro b hb
  obtain ⟨i, hi⟩ := List.getElem?_of_mem hb
  rw [List.getElem?_zipWith] at hi
  cases hx : xs[i]? with
  | none => simp [hx] at hi
  | some x =>
    cases hy : ys[i]? with
    | none => simp [hx, hy] at hi
    | some y =>
      simp [hx, hy] at hi
      rw [← hi]
      simpa using h i x y hx hy
end Go.Proofs.YthlphmojldbpkaaGreat

/- SameTumble of tumbles that are the same. -/
namespace Go.Proofs.YthlphmojldbpkaaGreat
open Go.RowKit
attribute [local go_sem] run_store_float run_store_complex

def cxE (p q : Pt) : Bool := eqB p.1 q.1 && eqB p.2 q.2
def bdE (b b' : Bd) : Bool := cxE b.1 b'.1 && cxE b.2 b'.2
theorem bdEq_fields (d : Nat) (b b' : Bd) (w : World) : (Op.eqFields (d + 1) #[.complex .f32 b.1.1 b.1.2, .complex .f32 b.2.1 b.2.2] #[.complex .f32 b'.1.1 b'.1.2, .complex .f32 b'.2.1 b'.2.2] (Tryz.prog.fieldsOf 54).toList).run Tryz.prog w = .ok (bdE b b') w := by
  have h : bdE b b' = (((FloatKind.f32.format.order b.1.1 b'.1.1 == some .eq) && (FloatKind.f32.format.order b.1.2 b'.1.2 == some .eq)) && ((FloatKind.f32.format.order b.2.1 b'.2.1 == some .eq) && (FloatKind.f32.format.order b.2.2 b'.2.2 == some .eq))) := rfl
  rw [h]
  have k := fun wx d a b a' b' => run_equalIn_complex (P := Tryz.prog) wx d 28 .f32 .f32 a b a' b' Tryz.underlying28
  cases h1 : ((FloatKind.f32.format.order b.1.1 b'.1.1 == some .eq) && (FloatKind.f32.format.order b.1.2 b'.1.2 == some .eq)) <;> cases h2 : ((FloatKind.f32.format.order b.2.1 b'.2.1 == some .eq) && (FloatKind.f32.format.order b.2.2 b'.2.2 == some .eq)) <;> simp [go_sem, Tryz.underlying54, k, h1, h2]
theorem run_neq_bd (b b' : Bd) (w : World) : (binOp .neq 54 (.agg #[.complex .f32 b.1.1 b.1.2, .complex .f32 b.2.1 b.2.2]) (.agg #[.complex .f32 b'.1.1 b'.1.2, .complex .f32 b'.2.1 b'.2.2])).run Tryz.prog w = .ok (.bool (!(bdE b b'))) w := by
  rw [run_neq_struct]
  have ht : Tryz.prog.underlying 54 = some (.struct (Tryz.prog.fieldsOf 54)) := by kernel_rfl
  have hp : Tryz.prog.stoodInHeld 54 = false := by kernel_rfl
  rw [run_equalIn_agg (P := Tryz.prog) w 9999 54 _ _ ht hp, bdEq_fields 9998]
  rfl

set_option maxHeartbeats 1000000 in
theorem equalBd_yes (A B : Option Addr) (n c d : Nat) (xs ys : List Bd) (w : World) (hn : n ≤ 8) (ha : Rd bdC 2 w w.heap.size A n xs) (hb : Rd bdC 2 w w.heap.size B n ys) (hs : ∀ (i : Nat) x y, xs[i]? = some x → ys[i]? = some y → bdE x y = true) :
    Calls Tryz.prog 60 #[.slice A n c, .slice B n d] w fun e w' => e = .returned (.bool true) ∧ Below w.heap.size w w' := by
  have HS := Lib.hid hs
  have hz : ((n : Int) != (n : Int)) = false := by simp
  clear hs
  go_enter Tryz.func60, Tryz.ntmps60
  go_wp2
  go_loopw [5, 13] (fun _ i wr => ∃ k : Nat, k ≤ n ∧ i = .int .i64 k ∧ Below w.heap.size w wr) (fun _ i _ => n - (intOf i).toNat)
  case atStart => exact ⟨0, Nat.zero_le _, rfl, Below.refl _ _⟩
  case round =>
    obtain ⟨k, hk, rfl, hw⟩ := hrel
    by_cases hlt : k < n
    · obtain ⟨b, off, a, v, rfl, hbl, hx, h0, h1⟩ := (ha.below hw).bd hlt
      obtain ⟨b', off', a', v', rfl, hbl', hy, h0', h1'⟩ := (hb.below hw).bd hlt
      have hki : (k : Int) < (n : Int) := by omega
      have hk0 : (0 : Int) ≤ (k : Int) := by omega
      have kc := fun wx => run_neq_bd (a, v) (a', v') wx
      rw [HS.out k _ _ hx hy] at kc
      dsimp only at kc
      clear hx hy
      go_wp2
      go_quiet (fail)
      go_wp2
      go_roundw
      case rel => exact ⟨k + 1, by omega, by go_num, by (repeat (first | with_reducible assumption | exact Below.refl _ _ | (refine Below.setCell ?_ (by first | exact Nat.le_refl _ | (simp; done) | omega | (simp; omega)) _) | (refine below_drewN ?_ _) | (refine Below.drew ?_) | (refine Below.alloc ?_ (by first | exact Nat.le_refl _ | (simp; done) | omega | (simp; omega)) _) | (refine then_ ?_ (by with_reducible assumption)) | assumption | (refine then_ ?_ (by assumption))))⟩
      case measure => simp [intOf]; omega
    · obtain rfl : k = n := by omega
      go_wp2
      go_ret
      exact ⟨rfl, hw⟩

set_option maxHeartbeats 1000000 in
theorem sameTumble_yes (mir : Int) (gr gr' : Pt) (loss loss' : Nat) (A B : Option Addr) (n c d : Nat) (xs ys : List Bd) (w : World) (hn : n ≤ 8) (ha : Rd bdC 2 w w.heap.size A n xs) (hb : Rd bdC 2 w w.heap.size B n ys) (hg : cxE gr gr' = true) (hl : eqB loss loss' = true) (hs : ∀ (i : Nat) x y, xs[i]? = some x → ys[i]? = some y → bdE x y = true) :
    Calls Tryz.prog 24 #[.agg #[.int .i64 mir, .complex .f32 gr.1 gr.2, .float .f32 loss, .slice A n c], .agg #[.int .i64 mir, .complex .f32 gr'.1 gr'.2, .float .f32 loss', .slice B n d]] w fun e w' => e = .returned (.bool true) ∧ Below w.heap.size w w' := by
  have e1 : ((FloatKind.f32.format.order gr.1 gr'.1 == some .eq) && (FloatKind.f32.format.order gr.2 gr'.2 == some .eq)) = true := hg
  have e2 : (FloatKind.f32.format.order loss loss' == some .eq) = true := hl
  have hm : (mir == mir) = true := by simp
  rw [Bool.and_eq_true] at e1
  obtain ⟨e1, e3⟩ := e1
  have HS := Lib.hid hs
  clear hg hl hs
  go_enter Tryz.func24, Tryz.ntmps24
  go_wp2_with (go_at_call 60; refine (equalBd_yes A B n c d xs ys _ hn (ha.step ?_) (hb.step ?_) HS.out).mono ?_; (repeat (first | with_reducible assumption | exact Below.refl _ _ | (refine Below.setCell ?_ (by first | exact Nat.le_refl _ | (simp; done) | omega | (simp; omega)) _) | (refine below_drewN ?_ _) | (refine Below.drew ?_) | (refine Below.alloc ?_ (by first | exact Nat.le_refl _ | (simp; done) | omega | (simp; omega)) _) | (refine then_ ?_ (by with_reducible assumption)) | assumption | (refine then_ ?_ (by assumption)))); rintro e w' ⟨rfl, hb1⟩)
  go_ret
  exact ⟨rfl, by (repeat (first | with_reducible assumption | exact Below.refl _ _ | (refine Below.setCell ?_ (by first | exact Nat.le_refl _ | (simp; done) | omega | (simp; omega)) _) | (refine below_drewN ?_ _) | (refine Below.drew ?_) | (refine Below.alloc ?_ (by first | exact Nat.le_refl _ | (simp; done) | omega | (simp; omega)) _) | (refine then_ ?_ (by with_reducible assumption)) | assumption | (refine then_ ?_ (by assumption))))⟩
end Go.Proofs.YthlphmojldbpkaaGreat

/- '==' on shards and events. -/
namespace Go.Proofs.YthlphmojldbpkaaGreat
open Go.RowKit

theorem run_eqIn_col (d : Nat) (r g b r' g' b' : Nat) (w : World) : (Op.equalIn (d + 2) 26 (.agg #[.float .f32 r, .float .f32 g, .float .f32 b]) (.agg #[.float .f32 r', .float .f32 g', .float .f32 b'])).run Tryz.prog w = .ok (colEqB (r, g, b) (r', g', b')) w := by
  have ht : Tryz.prog.underlying 26 = some (.struct (Tryz.prog.fieldsOf 26)) := by kernel_rfl
  have hp : Tryz.prog.stoodInHeld 26 = false := by kernel_rfl
  rw [run_equalIn_agg (P := Tryz.prog) w (d + 1) 26 _ _ ht hp]
  exact colEq_fields d r g b r' g' b' w
theorem eq_self {x : Nat} (h : finB x = true) : (FloatKind.f32.format.order x x == some .eq) = true := by
  have : eqB x x = true := by rw [eqB_fin h h]; simp
  exact this
theorem cx_self {p : Pt} (h : finP p) : ((FloatKind.f32.format.order p.1 p.1 == some .eq) && (FloatKind.f32.format.order p.2 p.2 == some .eq)) = true := by
  rw [eq_self h.1, eq_self h.2]; rfl
theorem col_self {c : Col} (h : colB c = true) : colEqB (c.1, c.2.1, c.2.2) (c.1, c.2.1, c.2.2) = true := by
  unfold colB at h
  simp only [Bool.and_eq_true] at h
  unfold colEqB
  dsimp only
  rw [eqB_fin (part_fin h.1) (part_fin h.1), eqB_fin (part_fin h.2.1) (part_fin h.2.1), eqB_fin (part_fin h.2.2) (part_fin h.2.2)]
  simp
/-- a shard whose numbers are good is equal to itself -/
theorem shSelf_fields (d : Nat) (s : Sh) (w : World) (h : okSh s = true) : (Op.eqFields (d + 2) (shC s).toArray (shC s).toArray (Tryz.prog.fieldsOf 36).toList).run Tryz.prog w = .ok true w := by
  obtain ⟨h1, h2, h3, h4, h5⟩ := okSh_parts h
  have e1 := cx_self (point_fin h1)
  have e2 := cx_self (point_fin h2)
  have e3 := cx_self (point_fin h3)
  have e4 := col_self h4
  have e5 := eq_self (part_fin h5)
  obtain ⟨⟨a, b⟩, ⟨c, e⟩, ⟨f, g⟩, ⟨r, u, l⟩, q⟩ := s
  dsimp only at e1 e2 e3 e4 e5
  have k := fun wx d a b a' b' => run_equalIn_complex (P := Tryz.prog) wx d 28 .f32 .f32 a b a' b' Tryz.underlying28
  have kf := fun wx d a b => run_equalIn_float (P := Tryz.prog) wx d 24 .f32 .f32 a b Tryz.underlying24
  have kc := fun d r g b r' g' b' wx => run_eqIn_col d r g b r' g' b' wx
  simp [shC, go_sem, Tryz.underlying36, k, kf, kc, e1, e2, e3, e4, e5]
theorem shSelf (d : Nat) (s : Sh) (w : World) (h : okSh s = true) : (Op.equalIn (d + 3) 36 (.agg (shC s).toArray) (.agg (shC s).toArray)).run Tryz.prog w = .ok true w := by
  have ht : Tryz.prog.underlying 36 = some (.struct (Tryz.prog.fieldsOf 36)) := by kernel_rfl
  have hp : Tryz.prog.stoodInHeld 36 = false := by kernel_rfl
  rw [run_equalIn_agg (P := Tryz.prog) w (d + 2) 36 _ _ ht hp]
  exact shSelf_fields d s w h
theorem run_neq_sh (s : Sh) (w : World) (h : okSh s = true) : (binOp .neq 36 (.agg (shC s).toArray) (.agg (shC s).toArray)).run Tryz.prog w = .ok (.bool false) w := by
  rw [run_neq_struct, shSelf 9997 s w h]
  rfl
def evX (k n : Int) (z : Pt) (s : Sh) (c : Col) : Array Value := #[.int .i64 k, .int .i64 n, .complex .f32 z.1 z.2, .complex .f32 s.1.1 s.1.2, .complex .f32 s.2.1.1 s.2.1.2, .complex .f32 s.2.2.1.1 s.2.2.1.2, .float .f32 s.2.2.2.1.1, .float .f32 s.2.2.2.1.2.1, .float .f32 s.2.2.2.1.2.2, .float .f32 s.2.2.2.2, .float .f32 c.1, .float .f32 c.2.1, .float .f32 c.2.2]
theorem evSelf_fields (d : Nat) (kd n : Int) (z : Pt) (s : Sh) (c : Col) (w : World) (hz : finP z) (hs : okSh s = true) (hc : colB c = true) : (Op.eqFields (d + 3) (evX kd n z s c) (evX kd n z s c) (Tryz.prog.fieldsOf 38).toList).run Tryz.prog w = .ok true w := by
  have e1 := cx_self hz
  have e4 := col_self hc
  have ks := fun wx => shSelf d s wx hs
  obtain ⟨⟨a, b⟩, ⟨c', e⟩, ⟨f, g⟩, ⟨r, u, l⟩, q⟩ := s
  obtain ⟨r', u', l'⟩ := c
  obtain ⟨x, y⟩ := z
  dsimp only at e1 e4
  simp only [shC] at ks
  have k := fun wx d a b a' b' => run_equalIn_complex (P := Tryz.prog) wx d 28 .f32 .f32 a b a' b' Tryz.underlying28
  have ki := fun wx d a b => run_equalIn_int (P := Tryz.prog) wx d 3 .i64 .i64 a b Tryz.underlying3
  have kc := fun d r g b r' g' b' wx => run_eqIn_col d r g b r' g' b' wx
  simp [evX, go_sem, Tryz.underlying38, k, ki, kc, ks, e1, e4]
theorem evSelf (kd n : Int) (z : Pt) (s : Sh) (c : Col) (w : World) (hz : finP z) (hs : okSh s = true) (hc : colB c = true) : (Op.equalIn 10000 38 (.agg (evX kd n z s c)) (.agg (evX kd n z s c))).run Tryz.prog w = .ok true w := by
  have ht : Tryz.prog.underlying 38 = some (.struct (Tryz.prog.fieldsOf 38)) := by kernel_rfl
  have hp : Tryz.prog.stoodInHeld 38 = false := by kernel_rfl
  rw [run_equalIn_agg (P := Tryz.prog) w 9999 38 _ _ ht hp]
  exact evSelf_fields 9996 kd n z s c w hz hs hc
theorem run_eql_ev (kd n : Int) (z : Pt) (s : Sh) (c : Col) (w : World) (hz : finP z) (hs : okSh s = true) (hc : colB c = true) : (binOp .eql 38 (.agg (evX kd n z s c)) (.agg (evX kd n z s c))).run Tryz.prog w = .ok (.bool true) w := by
  rw [run_eql_struct, evSelf kd n z s c w hz hs hc]
  rfl
theorem run_neq_ev (kd n : Int) (z : Pt) (s : Sh) (c : Col) (w : World) (hz : finP z) (hs : okSh s = true) (hc : colB c = true) : (binOp .neq 38 (.agg (evX kd n z s c)) (.agg (evX kd n z s c))).run Tryz.prog w = .ok (.bool false) w := by
  rw [run_neq_struct, evSelf kd n z s c w hz hs hc]
  rfl
theorem ok_sh0 : okSh sh0 = true := by decide +kernel
theorem ok_col0 : colB (0, 0, 0) = true := by decide +kernel
theorem fin_0 : finP (0, 0) := ⟨by decide, by decide⟩
theorem ev_good {e : Ev} (h : evG e = true) : finP e.z ∧ okSh e.s = true ∧ colB e.c = true := by
  cases e with
  | add s z =>
    simp only [evG] at h
    simp only [Bool.and_eq_true] at h
    exact ⟨(okW_32 h.2.1 h.2.2).1.1, h.1, ok_col0⟩
  | light c => exact ⟨fin_0, ok_sh0, h⟩
  | gravity z => exact ⟨point_fin h, ok_sh0, ok_col0⟩
  | push n z =>
    simp only [evG] at h
    simp only [Bool.and_eq_true] at h
    exact ⟨(okW_32 h.1 h.2).1.1, ok_sh0, ok_col0⟩
  | take n => exact ⟨fin_0, ok_sh0, ok_col0⟩
  | mirrors n => exact ⟨fin_0, ok_sh0, ok_col0⟩
  | wait n => exact ⟨fin_0, ok_sh0, ok_col0⟩
end Go.Proofs.YthlphmojldbpkaaGreat

/- Words of nothing or more; parts and colours. No program. -/
namespace Go.Proofs.YthlphmojldbpkaaGreat
open Go.RowKit Ieee

/-! ### energy -/
def small (x : Nat) : Prop := x < 2139095040
theorem small_fin {x : Nat} (h : small x) : finB x = true ∧ 0 ≤ key x := by
  unfold small at h
  refine ⟨by unfold finB; rw [Nat.mod_eq_of_lt (by omega)]; simpa using h, ?_⟩
  rw [key_nn (by omega)]; omega
theorem bring_nn {k : Int} (h : 0 ≤ k) (e : Nat) : 0 ≤ bring k e := by
  unfold bring
  rw [if_neg (by omega)]
  exact Int.natCast_nonneg _
theorem sum_small {x y : Nat} (hx : small x) (hy : small y) : small (addB x y) := by
  obtain ⟨a1, a2⟩ := small_fin hx
  obtain ⟨b1, b2⟩ := small_fin hy
  rw [add_keys a1 b1]
  unfold addK
  split
  · show (0 : Nat) < 2139095040; omega
  · have h1 := bring_nn a2 (lowU (key x) (key y))
    have h2 := bring_nn b2 (lowU (key x) (key y))
    have hd : decide (allS (key x) (key y) < 0) = false := by unfold allS; simp; omega
    rw [hd, word_false]
    exact cleanB_nn (nearest_nn _ _)
theorem small_mul {x y : Nat} (hx : finB x = true) (hy : finB y = true) (kx : 0 ≤ key x) (ky : 0 ≤ key y) : small (mulB x y) := by
  rw [mul_keys hx hy]
  unfold mulK
  split
  · show (0 : Nat) < 2139095040; omega
  · have h1 : decide (key x < 0) = false := by simp; omega
    have h2 : decide (key y < 0) = false := by simp; omega
    have h3 : (false != false) = false := rfl
    rw [h1, h2, h3, word_false]
    exact cleanB_nn (nearest_nn _ _)
theorem part_iff {x : Nat} : partB x = true ↔ finB x = true ∧ 0 ≤ key x ∧ key x ≤ 1065353216 := by
  have f1 : finB 1065353216 = true := by decide
  have k1 : key 1065353216 = 1065353216 := by decide
  constructor
  · intro h
    have hf := part_fin h
    unfold partB at h
    rw [ge_le hf f0, leB_fin f0 hf, leB_fin hf f1, k0, k1] at h
    simp only [Bool.and_eq_true, decide_eq_true_eq] at h
    exact ⟨hf, h.1, h.2⟩
  · rintro ⟨hf, h1, h2⟩
    unfold partB
    rw [ge_le hf f0, leB_fin f0 hf, leB_fin hf f1, k0, k1]
    simp only [Bool.and_eq_true, decide_eq_true_eq]
    exact ⟨h1, h2⟩
theorem part_mul {x y : Nat} (hx : partB x = true) (hy : partB y = true) : partB (mulB x y) = true := by
  obtain ⟨a1, a2, a3⟩ := part_iff.1 hx
  obtain ⟨b1, b2, b3⟩ := part_iff.1 hy
  obtain ⟨c1, c2⟩ := small_fin (small_mul a1 b1 a2 b2)
  obtain ⟨_, d2⟩ := mul_key a1 hy
  exact part_iff.2 ⟨c1, c2, by omega⟩
theorem part_clamp {z : Nat} (h : small z) : partB (if gtB z 1065353216 then 1065353216 else z) = true := by
  have f1 : finB 1065353216 = true := by decide
  have k1 : key 1065353216 = 1065353216 := by decide
  obtain ⟨a1, a2⟩ := small_fin h
  rw [gtB_fin a1 f1, k1]
  split
  · decide +kernel
  · rename_i h1
    simp only [decide_eq_true_eq] at h1
    exact part_iff.2 ⟨a1, a2, by omega⟩
end Go.Proofs.YthlphmojldbpkaaGreat

/- Light behind glass is a colour: plain. -/
namespace Go.Proofs.YthlphmojldbpkaaGreat
open Go.RowKit

theorem part_mix {x y k : Nat} (hx : partB x = true) (hy : partB y = true) (hk : partB k = true) : partB (mixN x y k) = true := by
  have hk' := one_sub hk
  obtain ⟨a1, a2, _⟩ := part_iff.1 hx
  obtain ⟨b1, b2, _⟩ := part_iff.1 hy
  obtain ⟨c1, c2, _⟩ := part_iff.1 hk
  obtain ⟨d1, d2, _⟩ := part_iff.1 hk'
  unfold mixN
  exact part_clamp (sum_small (small_mul a1 d1 a2 d2) (small_mul b1 c1 b2 c2))
theorem colB_of {a b c : Nat} (h1 : partB a = true) (h2 : partB b = true) (h3 : partB c = true) : colB (a, b, c) = true := by
  unfold colB; rw [h1, h2, h3]; rfl
theorem mixC_col {a b : Col} {k : Nat} (ha : colB a = true) (hb : colB b = true) (hk : partB k = true) : colB (mixC a b k) = true := by
  obtain ⟨a1, a2, a3⟩ := colB_parts ha
  obtain ⟨b1, b2, b3⟩ := colB_parts hb
  exact colB_of (part_mix a1 b1 hk) (part_mix a2 b2 hk) (part_mix a3 b3 hk)
theorem filtC_col {a b : Col} (ha : colB a = true) (hb : colB b = true) : colB (filtC a b) = true := by
  obtain ⟨a1, a2, a3⟩ := colB_parts ha
  obtain ⟨b1, b2, b3⟩ := colB_parts hb
  exact colB_of (part_mul a1 b1) (part_mul a2 b2) (part_mul a3 b3)
theorem seen_col : ∀ {l : List Sh}, l.all okSh = true → ∀ {p : Pt} {c : Col}, colB c = true → colB (seenL l p c) = true
  | [], _, _, _, h => h
  | s :: l, hl, p, c, h => by
    rw [List.all_cons, Bool.and_eq_true] at hl
    obtain ⟨_, _, _, h4, h5⟩ := okSh_parts hl.1
    unfold seenL
    rw [List.foldl_cons]
    refine seen_col hl.2 ?_
    split
    · exact mixC_col (filtC_col h h4) h h5
    · exact h
theorem seenL_append (l : List Sh) (s : Sh) (p : Pt) (c : Col) : seenL (l ++ [s]) p c = if liesB s p then mixC (filtC (seenL l p c) s.2.2.2.1) (seenL l p c) s.2.2.2.2 else seenL l p c := by
  unfold seenL
  rw [List.foldl_append]
  rfl
end Go.Proofs.YthlphmojldbpkaaGreat
