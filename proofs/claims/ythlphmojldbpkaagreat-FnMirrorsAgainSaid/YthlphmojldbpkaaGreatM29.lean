/- SShow · AppL · CopyS · OffS · NewS2 -/
import Derived.Test.YthlphmojldbpkaaGreatM28
import Derived.Test.YthlphmojldbpkaaGreatM21
import Derived.Test.YthlphmojldbpkaaGreatM8
import Derived.Test.YthlphmojldbpkaaGreatM1
import Derived.Laws.OwnMore
import Derived.Tactics
import Derived.Test.YthlphmojldbpkaaGreatSpT

/- IsTumble, AreShards, IsShow: the specification's, of shows that are good but for bounds. -/
namespace Go.Proofs.YthlphmojldbpkaaGreat
open Go.RowKit
attribute [local go_sem] run_store_float run_store_complex

set_option maxRecDepth 100000 in
set_option maxHeartbeats 4000000 in
theorem specIsTumble_good (mir : Int) (gr : Pt) (loss : Nat) (A : Option Addr) (n c : Nat) (bs : List Bd) (w : World) (hn : n ≤ 1000) (h1 : inB mir 0 3 = true) (h2 : pointB gr.1 gr.2 = true) (h3 : partB loss = true) (hw : ∀ b ∈ bs, wedgeB mir b.1 = true) (ha : Rd bdC 2 w w.heap.size A n bs) :
    Calls Tryz.prog 130 #[.agg #[.int .i64 mir, .complex .f32 gr.1 gr.2, .float .f32 loss, .slice A n c]] w fun e w' => e = .returned (.bool (decide (bs.length ≤ 8) && bs.all (fun b => pointB b.2.1 b.2.2))) ∧ Below w.heap.size w w' := by
  have HL := Lib.hid ha.1
  have HWD := Lib.hid hw
  clear hw
  go_enter Tryz.func130, Tryz.ntmps130
  go_wp2_with fail
  (with_reducible refine (l1In_any _ _ _ _).mono ?_)
  rw [h1]
  rintro e w' ⟨rfl, rfl⟩
  go_wp2_with fail
  (with_reducible refine (specIsPoint_any gr.1 gr.2 _).mono ?_)
  rw [h2]
  rintro e w' ⟨rfl, n1, rfl⟩
  go_wp2_with fail
  (with_reducible refine (l2Part_any _ _).mono ?_)
  rw [h3]
  rintro e w' ⟨rfl, n2, rfl⟩
  obtain ⟨W, hWe⟩ : ∃ W, W = ((w.alloc (Obj.cells #[.int .i64 mir, .complex .f32 gr.1 gr.2, .float .f32 loss, .slice A n c] 31)).drewN (n1 + n2)) := ⟨_, rfl⟩
  have hW : Below w.heap.size w W := by rw [hWe]; exact below_drewN (by (repeat (first | with_reducible assumption | exact Below.refl _ _ | (refine Below.setCell ?_ (by first | exact Nat.le_refl _ | (simp; done) | omega | (simp; omega)) _) | (refine below_drewN ?_ _) | (refine Below.drew ?_) | (refine Below.alloc ?_ (by first | exact Nat.le_refl _ | (simp; done) | omega | (simp; omega)) _) | (refine then_ ?_ (by with_reducible assumption)) | assumption | (refine then_ ?_ (by assumption))))) _
  have c0 : W.cell? ⟨w.heap.size, 0, none⟩ = some (.int .i64 mir) := by rw [hWe]; show (w.alloc _).cell? _ = _; simp [go_sem]
  have c3 : W.cell? ⟨w.heap.size, 3, none⟩ = some (.slice A n c) := by rw [hWe]; show (w.alloc _).cell? _ = _; simp [go_sem]
  have lW := World.block_lt_of_cell? _ _ c0
  dsimp only at lW
  rcases Nat.lt_or_ge 8 n with h8 | h8
  · have hni : (8 : Int) < (n : Int) := by omega
    have R := Lib.hid (show (decide (bs.length ≤ 8) && bs.all (fun b => pointB b.2.1 b.2.2)) = false by rw [show decide (bs.length ≤ 8) = false by simp; have := HL.out; omega]; rfl)
    clear c0 c3 lW hWe hW
    go_wp2
    go_ret
    exact ⟨by rw [R.out]; rfl, below_drewN (by (repeat (first | with_reducible assumption | exact Below.refl _ _ | (refine Below.setCell ?_ (by first | exact Nat.le_refl _ | (simp; done) | omega | (simp; omega)) _) | (refine below_drewN ?_ _) | (refine Below.drew ?_) | (refine Below.alloc ?_ (by first | exact Nat.le_refl _ | (simp; done) | omega | (simp; omega)) _) | (refine then_ ?_ (by with_reducible assumption)) | assumption | (refine then_ ?_ (by assumption))))) _⟩
  · have hni : ¬ (8 : Int) < (n : Int) := by omega
    have R := Lib.hid (show (decide (bs.length ≤ 8) && bs.all (fun b => pointB b.2.1 b.2.2)) = bs.all (fun b => pointB b.2.1 b.2.2) by rw [show decide (bs.length ≤ 8) = true by simp; have := HL.out; omega, Bool.true_and])
    go_upto_region 3 with fail
    rw [← hWe]
    clear hWe
    go_wp2_with fail
    go_loopw [30] (fun i wr => ∃ k : Nat, k ≤ n ∧ i = .int .i64 k ∧ (∀ (j : Nat) b, j < k → bs[j]? = some b → pointB b.2.1 b.2.2 = true) ∧ Below W.heap.size W wr) (fun i _ => n - (intOf i).toNat)
    case atStart => exact ⟨0, Nat.zero_le _, rfl, fun j b h => by omega, Below.refl _ _⟩
    case round =>
      clear c3
      obtain ⟨k, hk, rfl, hall, hw⟩ := hrel
      have HALL := Lib.hid hall
      clear hall
      by_cases hlt : k < n
      · have hWr := then_ hW hw
        obtain ⟨bb, off, a, v, rfl, hbl, hx, x0, x1⟩ := (ha.step hWr).bd hlt
        have hki : (k : Int) < (n : Int) := by omega
        have hk0 : (0 : Int) ≤ (k : Int) := by omega
        have o1 := HWD.out (a, v) (List.mem_of_getElem? hx)
        dsimp only at o1
        have d0 := keepC c0 hw
        have lr := World.block_lt_of_cell? _ _ d0
        dsimp only at lr
        have KI := Lib.hid (fun w => specInWedge_yes mir a w o1)
        have HX := Lib.hid hx
        clear hx o1
        go_wp2_with fail
        (with_reducible refine (KI.out _).mono ?_)
        rintro e w' ⟨rfl, n3, rfl⟩
        go_wp2_with fail
        (with_reducible refine (specIsPoint_any v.1 v.2 _).mono ?_)
        cases o2 : pointB v.1 v.2
        · have RN := Lib.hid (show bs.all (fun b => pointB b.2.1 b.2.2) = false from List.all_eq_false.2 ⟨(a, v), List.mem_of_getElem? HX.out, by simp [o2]⟩)
          rintro e w' ⟨rfl, n4, rfl⟩
          clear o2
          go_wp2
          go_ret
          exact ⟨by rw [R.out, RN.out]; rfl, below_drewN (by (repeat (first | with_reducible assumption | exact Below.refl _ _ | (refine Below.setCell ?_ (by first | exact Nat.le_refl _ | (simp; done) | omega | (simp; omega)) _) | (refine below_drewN ?_ _) | (refine Below.drew ?_) | (refine Below.alloc ?_ (by first | exact Nat.le_refl _ | (simp; done) | omega | (simp; omega)) _) | (refine then_ ?_ (by with_reducible assumption)) | assumption | (refine then_ ?_ (by assumption))))) _⟩
        · have O2 := Lib.hid o2
          rintro e w' ⟨rfl, n4, rfl⟩
          clear o2
          go_wp2
          go_roundw
          case rel =>
            refine ⟨k + 1, by omega, by go_num, fun j b hj hb => ?_, below_drewN (hw.alloc hw.size _) _⟩
            by_cases e : j = k
            · subst e; rw [HX.out] at hb; injection hb with hb; subst hb; exact O2.out
            · exact HALL.out j b (by omega) hb
          case measure => simp [intOf]; omega
      · obtain rfl : k = n := by omega
        have RY := Lib.hid (show bs.all (fun b => pointB b.2.1 b.2.2) = true from List.all_eq_true.2 (fun b hb => by
          obtain ⟨j, hj⟩ := List.getElem?_of_mem hb
          exact HALL.out j b (by have := (List.getElem?_eq_some_iff.1 hj).1; have := HL.out; omega) hj))
        go_wp2
        go_ret
        exact ⟨by rw [R.out, RY.out]; rfl, then_ hW hw⟩

set_option maxRecDepth 100000 in
set_option maxHeartbeats 4000000 in
theorem specAreShards_yes (H : Option Addr) (p pc : Nat) (ls : List Sh) (w : World) (hp : p ≤ 12) (hok : ls.all okSh = true) (hs : Rd shC 7 w w.heap.size H p ls) :
    Calls Tryz.prog 129 #[.slice H p pc] w fun e w' => e = .returned (.bool true) ∧ Below w.heap.size w w' := by
  have HOK := Lib.hid hok
  have h12 : (p : Int) ≤ 12 := by omega
  have hd : decide ((p : Int) ≤ 12) = true := by simp [h12]
  clear hok
  go_enter Tryz.func129, Tryz.ntmps129
  go_wp2_with fail
  go_loopw [7] (fun i wr => ∃ k : Nat, k ≤ p ∧ i = .int .i64 k ∧ Below w.heap.size w wr) (fun i _ => p - (intOf i).toNat)
  case atStart => exact ⟨0, Nat.zero_le _, rfl, Below.refl _ _⟩
  case round =>
    obtain ⟨k, hk, rfl, hw⟩ := hrel
    by_cases hlt : k < p
    · obtain ⟨bb, off, a, c, d, r, g, l, q, rfl, hbl, hx, c0, c1, c2, c3, c4, c5, c6⟩ := (hs.step hw).sh hlt
      have hki : (k : Int) < (p : Int) := by omega
      have hk0 : (0 : Int) ≤ (k : Int) := by omega
      have ho := List.all_eq_true.1 HOK.out _ (List.mem_of_getElem? hx)
      have K := Lib.hid (fun w => specIsShard_yes (a, c, d, (r, g, l), q) w ho)
      clear hx ho
      go_wp2_with (go_at_call 131; (with_reducible refine (K.out _).mono ?_); rintro e w1 ⟨rfl, hb1⟩)
      go_roundw
      case rel => exact ⟨k + 1, by omega, by go_num, then_ (hw.alloc hw.size _) hb1⟩
      case measure => simp [intOf]; omega
    · obtain rfl : k = p := by omega
      go_wp2
      go_ret
      exact ⟨rfl, hw⟩

set_option maxRecDepth 100000 in
set_option maxHeartbeats 8000000 in
theorem specIsShow_any (s : Shw) (A B L : Option Addr) (n c m d p q : Nat) (w : World) (hg : Good s) (hn : n ≤ 12) (hm : m ≤ 12) (hp : p ≤ 30) (rS : Rd shC 7 w w.heap.size A n s.sh) (rB : Rd bdC 2 w w.heap.size B m s.bs) (rL : Rd evC 13 w w.heap.size L p s.log) :
    Calls Tryz.prog 98 #[.agg #[.int .i64 s.sz, .float .f32 s.st, .float .f32 s.li.1, .float .f32 s.li.2.1, .float .f32 s.li.2.2, .slice A n c, .int .i64 s.mir, .complex .f32 s.gr.1 s.gr.2, .float .f32 s.loss, .slice B m d, .int .i64 s.tk, .slice L p q]] w fun e w' => e = .returned (.bool (okS s)) ∧ Below w.heap.size w w' := by
  have KA := Lib.hid (fun w h => specAreShards_yes A n c s.sh w hn hg.sh h)
  have KT := Lib.hid (fun w h => specIsTumble_good s.mir s.gr s.loss B m d s.bs w (by omega) hg.mir hg.gr hg.loss hg.wed h)
  have LOG := Lib.hid hg.log
  have hl : (m : Int) = (n : Int) := by have := hg.len; have := rS.1; have := rB.1; omega
  have R := okS_eq hg
  rw [good_tum hg] at R
  have LP := rL.1
  have h1 := hg.sz
  have h3 := hg.li
  have h2 := hg.st
  rw [step_parts] at h2
  simp only [Bool.and_eq_true, Bool.not_eq_true'] at h2
  obtain ⟨g1, g2, g3⟩ := h2
  have e1 : (FloatKind.f32.format.order s.st 0 == some .lt || FloatKind.f32.format.order s.st 0 == some .eq) = leB s.st 0 := rfl
  have e2 : (FloatKind.f32.format.order s.st 1132462080 == some .gt) = gtB s.st 1132462080 := rfl
  rw [g2] at e1
  rw [g3] at e2
  generalize htb : (decide (s.bs.length ≤ 8) && s.bs.all (fun b => pointB b.2.1 b.2.2)) = tb at KT R
  clear hg g2 g3 htb
  go_enter Tryz.func98, Tryz.ntmps98
  go_wp2_with fail
  have hW := Below.refl w.heap.size w
  have ca := CA.new w #[.int .i64 s.sz, .float .f32 s.st, .float .f32 s.li.1, .float .f32 s.li.2.1, .float .f32 s.li.2.2, .slice A n c, .int .i64 s.mir, .complex .f32 s.gr.1 s.gr.2, .float .f32 s.loss, .slice B m d, .int .i64 s.tk, .slice L p q] 34; have fa := FA.new w #[.int .i64 s.sz, .float .f32 s.st, .float .f32 s.li.1, .float .f32 s.li.2.1, .float .f32 s.li.2.2, .slice A n c, .int .i64 s.mir, .complex .f32 s.gr.1 s.gr.2, .float .f32 s.loss, .slice B m d, .int .i64 s.tk, .slice L p q] 34; replace hW := hW.alloc (hW.size) (Obj.cells #[.int .i64 s.sz, .float .f32 s.st, .float .f32 s.li.1, .float .f32 s.li.2.1, .float .f32 s.li.2.2, .slice A n c, .int .i64 s.mir, .complex .f32 s.gr.1 s.gr.2, .float .f32 s.loss, .slice B m d, .int .i64 s.tk, .slice L p q] 34); obtain ⟨V, hVe⟩ : ∃ V, V = w.alloc (Obj.cells #[.int .i64 s.sz, .float .f32 s.st, .float .f32 s.li.1, .float .f32 s.li.2.1, .float .f32 s.li.2.2, .slice A n c, .int .i64 s.mir, .complex .f32 s.gr.1 s.gr.2, .float .f32 s.loss, .slice B m d, .int .i64 s.tk, .slice L p q] 34) := ⟨_, rfl⟩; have zV : V.heap.size = w.heap.size + 1 := (by rw [hVe]; simp); rw [← hVe] at ca fa hW; rw [← hVe]; clear hVe; have la := ca.lt
  replace rS := rS.step hW
  replace rB := rB.step hW
  replace rL := rL.step hW
  (with_reducible refine (l1In_any s.sz 1 8 _).mono ?_)
  rw [h1]
  rintro e w' ⟨rfl, rfl⟩
  have a0 := ca 0 _ rfl; have a1 := ca 1 _ rfl; have a2 := ca 2 _ rfl; have a3 := ca 3 _ rfl; have a4 := ca 4 _ rfl; have a5 := ca 5 _ rfl; have a6 := ca 6 _ rfl; have a7 := ca 7 _ rfl; have a8 := ca 8 _ rfl; have a9 := ca 9 _ rfl; have a10 := ca 10 _ rfl; have a11 := ca 11 _ rfl
  go_wp2_with fail
  (with_reducible refine (l1Single_any s.st _).mono ?_)
  rw [g1]
  rintro e w' ⟨rfl, n1, rfl⟩
  go_wp2_with fail
  (with_reducible refine (specIsColour_any s.li.1 s.li.2.1 s.li.2.2 _).mono ?_)
  rw [show colB (s.li.1, s.li.2.1, s.li.2.2) = true from h3]
  rintro e w1 ⟨rfl, hb⟩
  have hb' : Below V.heap.size V w1 := (below_drewN (Below.refl _ _) _).trans hb
  clear a0 a1 a2 a3 a4 a5 a6 a7 a8 a9 a10 a11 e1 e2 hb
  replace ca := ca.keep hb'
  replace rS := rS.step hb'
  replace rB := rB.step hb'
  replace rL := rL.step hb'
  replace hW := then_ hW hb'
  have la1 := ca.lt
  clear hb' la
  have a5 := ca 5 _ rfl
  go_wp2_with fail
  (with_reducible refine (KA.out _ rS).mono ?_)
  rintro e w2 ⟨rfl, hb⟩
  clear a5
  replace ca := ca.keep hb
  replace rB := rB.step hb
  replace rL := rL.step hb
  replace hW := then_ hW hb
  have la2 := ca.lt
  clear hb rS la1
  have a6 := ca 6 _ rfl
  have a7 := ca 7 _ rfl
  have a8 := ca 8 _ rfl
  have a9 := ca 9 _ rfl
  go_wp2_with fail
  (with_reducible refine (KT.out _ rB).mono ?_)
  rintro e w3 ⟨rfl, hb⟩
  clear a6 a7 a8 a9
  replace ca := ca.keep hb
  replace rL := rL.step hb
  replace hW := then_ hW hb
  have la3 := ca.lt
  clear hb rB la2
  cases tb
  · rw [Bool.false_and] at R
    go_wp2
    go_ret
    exact ⟨by rw [R]; rfl, hW⟩
  · rw [Bool.true_and] at R
    have a5 := ca 5 _ rfl
    have a9 := ca 9 _ rfl
    have a10 := ca 10 _ rfl
    have a11 := ca 11 _ rfl
    have hne : ((m : Int) != (n : Int)) = false := by rw [hl]; simp
    go_wp2_with fail
    (with_reducible refine (l1In_any s.tk 0 200 _).mono ?_)
    rintro e w' ⟨rfl, rfl⟩
    cases h5 : inB s.tk 0 200
    · rw [h5, Bool.false_and] at R
      go_wp2
      go_ret
      exact ⟨by rw [R]; rfl, hW⟩
    · rw [h5, Bool.true_and] at R
      have RR := Lib.hid R
      have CAH := Lib.hid ca
      clear R h5 hl hne
      go_wp2_with fail
      go_loopw [62] (fun i wr => ∃ k : Nat, k ≤ p ∧ i = .int .i64 k ∧ Below w3.heap.size w3 wr) (fun i _ => p - (intOf i).toNat)
      case atStart => exact ⟨0, Nat.zero_le _, rfl, Below.refl _ _⟩
      case round =>
        clear a5 a9 a10 a11 ca
        obtain ⟨k, hk, rfl, hw⟩ := hrel
        by_cases hlt : k < p
        · obtain ⟨bb, off, e, rfl, hbl, hx, c0, c1, c2, c3, c4, c5, c6, c7, c8, c9, c10, c11, c12⟩ := (rL.step hw).ev hlt
          have hki : (k : Int) < (p : Int) := by omega
          have hk0 : (0 : Int) ≤ (k : Int) := by omega
          have ho := List.all_eq_true.1 LOG.out _ (List.mem_of_getElem? hx)
          unfold evB at ho
          rw [Bool.and_eq_true] at ho
          have K := Lib.hid (fun w => specIsEvent_any e w ho.1)
          rw [ho.2] at K
          clear hx ho
          go_wp2_with (go_at_call 99; (with_reducible refine (K.out _).mono ?_); rintro r w5 ⟨rfl, hb1⟩)
          go_roundw
          case rel => exact ⟨k + 1, by omega, by go_num, then_ (hw.alloc hw.size _) hb1⟩
          case measure => simp [intOf]; omega
        · obtain rfl : k = p := by omega
          have a11 := keepC (CAH.out 11 _ rfl) hw
          have hWr := then_ hW hw
          have lar := World.block_lt_of_cell? _ _ a11
          dsimp only at lar
          have hle : decide (s.log.length ≤ 24) = decide ((k : Int) ≤ 24) := by rw [LP]; congr 1; apply propext; omega
          have RL := Lib.hid (RR.out.trans hle)
          clear hle
          go_wp2
          go_ret
          exact ⟨by rw [RL.out]; rfl, hWr⟩
end Go.Proofs.YthlphmojldbpkaaGreat

/- append onto an empty literal: a copy, nil or not. No program. -/
namespace Go.Proofs.YthlphmojldbpkaaGreat
open Go.RowKit

theorem run_append_lit_none {P : Program} (w : World) (t ty e : TypeId) (i : TypeInfo) (ht : P.underlying t = some (.slice e)) (hi : P.info? e = some i) (ad : Addr) (n cap c : Nat) (hc : n ≤ cap) :
    (Builtin.append_ #[t, t] ty #[.slice (some ad) n cap, .slice none 0 c]).run P w = .ok (.slice (some ad) n cap) w := by
  simp [Builtin.append_, run_underlying ht, sizeOf, typeInfo, hi, Builtin.lenOf, Builtin.firstCells, hc, storeCells]
theorem wpList_copy_lit {P : Program} (W : World) {ops : Array Oper} {rest : List Oper} {o : Oper} {a : Act} {Q : Exit → Act → World → Prop} (hgd : o.guard = none) (s x : Operand) (t : TypeId)
    (ho : o.op = .call { callee := .builtin .append, args := #[s, x], argTypes := #[t, t] })
    (e : TypeId) (i : TypeInfo) (z : Value) (size bytes : Nat) (ht : P.underlying t = some (.slice e)) (hi : P.info? e = some i) (hz : i.zero = some z)
    (hsize : i.size = size) (hby : i.bytes = bytes) (hzs : z.cells.size = size) (hsz : 0 < size) {α : Type} {enc : α → List Value} (he : ∀ x, (enc x).length = size)
    (hs : a.eval s = .slice (some ⟨W.heap.size, 0, none⟩) 0 0) (A : Option Addr) (m c : Nat) (bs : List α) (hx : a.eval x = .slice A m c) (hr : Rd enc size W W.heap.size A m bs)
    (h1 : ∀ u ∈ flat enc bs, u.oneCell' = true) (h63 : m ≤ maxLen) (hbytes : m * bytes ≤ 140737488355328)
    (h : ∀ B d w', w'.ownsRow W.heap.size e size (.slice B m d) m (flat enc bs) → Below W.heap.size W w' → wpList P ops Q rest (a.put o.dst (.slice B m d)) w') :
    wpList P ops Q (o :: rest) a (W.alloc (Obj.cells #[] e)) := by
  have hB : Below W.heap.size W (W.alloc (Obj.cells #[] e)) := (Below.refl _ _).alloc (Nat.le_refl _) _
  have o0 := World.ownsRow_lit (base := W.heap.size) (size := size) (e := e) W #[] 0 (Nat.le_refl _) (by simp [maxLen]) (by simp)
  cases A with
  | none =>
    have h0 : m = 0 := by
      rcases Nat.eq_zero_or_pos m with h | h
      · exact h
      · obtain ⟨b, off, e, _⟩ := hr.2 h; cases e
    subst h0
    have hb : bs = [] := List.eq_nil_of_length_eq_zero hr.1
    subst hb
    refine wpList_plain hgd fun K hK => ?_
    have hrun := run_append_lit_none (P := P) (W.alloc (Obj.cells #[] e)) t o.type e i ht hi ⟨W.heap.size, 0, none⟩ 0 0 c (Nat.le_refl _)
    unfold Oper.wp
    simp [execOp, ho, resolve, invoke, builtin, hs, hx, hrun, Result.andThen]
    exact hK _ _ (h _ _ _ o0 hB)
  | some ad =>
    have hl : (flat enc bs).length = m * size := by rw [flat_length he, hr.1]
    refine wpList_append_own_at _ hgd s x t ho W.heap.size e i z size bytes ht hi hz hsize hby hzs hsz _ 0 [] hs o0 ad m c (flat enc bs) hx hl (Rd.cells he hsz (hr.step hB)) h1 (by rw [Nat.zero_add]; exact h63) (by rw [Nat.zero_add]; exact hbytes) (by simp) ?_
    intro v3 w3 hown3 hg3 _ _
    obtain ⟨B3, d3, rfl⟩ := owns_slice hown3
    rw [Nat.zero_add, List.nil_append] at hown3
    rw [Nat.zero_add]
    exact h _ _ _ hown3 (hB.grown hg3 hB.size (fun k hk => (o0.lt k hk).1))
end Go.Proofs.YthlphmojldbpkaaGreat

/- l6Copy: the specification's. -/
namespace Go.Proofs.YthlphmojldbpkaaGreat
open Go.RowKit
attribute [local go_sem] run_store_float run_store_complex

set_option maxRecDepth 100000 in
set_option maxHeartbeats 4000000 in
theorem specCopyS_any (s : Shw) (A B L : Option Addr) (c d q : Nat) (w : World) (hn : s.sh.length ≤ 1000) (hm : s.bs.length ≤ 8) (hp : s.log.length ≤ 1000) (hr : RdS w s A B L) :
    Calls Tryz.prog 61 #[.agg #[.int .i64 s.sz, .float .f32 s.st, .float .f32 s.li.1, .float .f32 s.li.2.1, .float .f32 s.li.2.2, .slice A s.sh.length c, .int .i64 s.mir, .complex .f32 s.gr.1 s.gr.2, .float .f32 s.loss, .slice B s.bs.length d, .int .i64 s.tk, .slice L s.log.length q]] w fun e w' => (∃ A B L c d q, e = .returned (.agg #[.int .i64 s.sz, .float .f32 s.st, .float .f32 s.li.1, .float .f32 s.li.2.1, .float .f32 s.li.2.2, .slice A s.sh.length c, .int .i64 s.mir, .complex .f32 s.gr.1 s.gr.2, .float .f32 s.loss, .slice B s.bs.length d, .int .i64 s.tk, .slice L s.log.length q]) ∧ OwnS w' w.heap.size s A B L c d q) ∧ Below w.heap.size w w' := by
  obtain ⟨n, hnn⟩ : ∃ n, n = s.sh.length := ⟨_, rfl⟩
  obtain ⟨m, hmm⟩ : ∃ m, m = s.bs.length := ⟨_, rfl⟩
  obtain ⟨p, hpp⟩ : ∃ p, p = s.log.length := ⟨_, rfl⟩
  have HR := Lib.hid hr
  have KB := Lib.hid (fun w h => specCopy_any s.mir s.gr s.loss B m d s.bs w (by omega) h)
  obtain ⟨i0, hi, hz0, hz1, hz2⟩ := info_parts infoShd
  obtain ⟨j0, hj, hy0, hy1, hy2⟩ := info_parts infoEv
  unfold RdS at hr
  unfold OwnS
  rw [← hnn, ← hmm, ← hpp] at hr ⊢
  obtain ⟨rS, rB, rL⟩ := hr
  have hn1 : n ≤ 1000 := by omega
  have hp1 : p ≤ 1000 := by omega
  clear hnn hmm hpp HR hn hm hp
  go_enter Tryz.func61, Tryz.ntmps61
  go_upto_region 1 with fail
  have hW := Below.refl w.heap.size w
  have ca := CA.new w #[.int .i64 s.sz, .float .f32 s.st, .float .f32 s.li.1, .float .f32 s.li.2.1, .float .f32 s.li.2.2, .slice A n c, .int .i64 s.mir, .complex .f32 s.gr.1 s.gr.2, .float .f32 s.loss, .slice B m d, .int .i64 s.tk, .slice L p q] 34; have fa := FA.new w #[.int .i64 s.sz, .float .f32 s.st, .float .f32 s.li.1, .float .f32 s.li.2.1, .float .f32 s.li.2.2, .slice A n c, .int .i64 s.mir, .complex .f32 s.gr.1 s.gr.2, .float .f32 s.loss, .slice B m d, .int .i64 s.tk, .slice L p q] 34; replace hW := hW.alloc (hW.size) (Obj.cells #[.int .i64 s.sz, .float .f32 s.st, .float .f32 s.li.1, .float .f32 s.li.2.1, .float .f32 s.li.2.2, .slice A n c, .int .i64 s.mir, .complex .f32 s.gr.1 s.gr.2, .float .f32 s.loss, .slice B m d, .int .i64 s.tk, .slice L p q] 34); obtain ⟨V, hVe⟩ : ∃ V, V = w.alloc (Obj.cells #[.int .i64 s.sz, .float .f32 s.st, .float .f32 s.li.1, .float .f32 s.li.2.1, .float .f32 s.li.2.2, .slice A n c, .int .i64 s.mir, .complex .f32 s.gr.1 s.gr.2, .float .f32 s.loss, .slice B m d, .int .i64 s.tk, .slice L p q] 34) := ⟨_, rfl⟩; have zV : V.heap.size = w.heap.size + 1 := (by rw [hVe]; simp); rw [← hVe] at ca fa hW; rw [← hVe]; clear hVe; have la := ca.lt
  have cb := CA.new V #[.int .i64 0, .float .f32 0, .float .f32 0, .float .f32 0, .float .f32 0, .slice none 0 0, .int .i64 0, .complex .f32 0 0, .float .f32 0, .slice none 0 0, .int .i64 0, .slice none 0 0] 34; have fb := FA.new V #[.int .i64 0, .float .f32 0, .float .f32 0, .float .f32 0, .float .f32 0, .slice none 0 0, .int .i64 0, .complex .f32 0 0, .float .f32 0, .slice none 0 0, .int .i64 0, .slice none 0 0] 34; replace ca := ca.alloc (Obj.cells #[.int .i64 0, .float .f32 0, .float .f32 0, .float .f32 0, .float .f32 0, .slice none 0 0, .int .i64 0, .complex .f32 0 0, .float .f32 0, .slice none 0 0, .int .i64 0, .slice none 0 0] 34); replace fa := fa.alloc la (Obj.cells #[.int .i64 0, .float .f32 0, .float .f32 0, .float .f32 0, .float .f32 0, .slice none 0 0, .int .i64 0, .complex .f32 0 0, .float .f32 0, .slice none 0 0, .int .i64 0, .slice none 0 0] 34); replace hW := hW.alloc (hW.size) (Obj.cells #[.int .i64 0, .float .f32 0, .float .f32 0, .float .f32 0, .float .f32 0, .slice none 0 0, .int .i64 0, .complex .f32 0 0, .float .f32 0, .slice none 0 0, .int .i64 0, .slice none 0 0] 34); obtain ⟨W, hWe⟩ : ∃ W, W = V.alloc (Obj.cells #[.int .i64 0, .float .f32 0, .float .f32 0, .float .f32 0, .float .f32 0, .slice none 0 0, .int .i64 0, .complex .f32 0 0, .float .f32 0, .slice none 0 0, .int .i64 0, .slice none 0 0] 34) := ⟨_, rfl⟩; have zW : W.heap.size = V.heap.size + 1 := (by rw [hWe]; simp); rw [← hWe] at cb fb ca fa hW; rw [← hWe]; clear hWe; have lb := cb.lt; replace la := ca.lt
  rw [zV] at cb fb lb zW
  clear zV
  have lW0 : w.heap.size < W.heap.size := by omega
  have lW1 : w.heap.size + 1 < W.heap.size := by omega
  have l1 : w.heap.size ≤ w.heap.size + 1 := by omega
  have l0 : w.heap.size ≤ w.heap.size := Nat.le_refl _
  have n01 : ¬ w.heap.size + 1 = w.heap.size := by omega
  have n10 : ¬ w.heap.size = w.heap.size + 1 := by omega
  clear zW
  have a5 := ca 5 _ rfl
  have f5 := fa 5
  have RS := Lib.hid (rS.step hW)
  have CA0 := Lib.hid ca
  have FA0 := Lib.hid fa
  have CB0 := Lib.hid cb
  have FB0 := Lib.hid fb
  go_upto_region 2 with (at_builtin; refine wpList_copy_lit W rfl _ _ 27 rfl 36 i0 (.agg #[.complex .f32 0 0, .complex .f32 0 0, .complex .f32 0 0, .float .f32 0, .float .f32 0, .float .f32 0, .float .f32 0]) 7 40 Tryz.underlying27 hi hz0 hz1 hz2 rfl (by decide) shC_len (by rfl) A n c s.sh (by rfl) RS.out (shC_one _) (by unfold maxLen; omega) (by omega) ?_; intro A1 c1 w1 oS hb; have a5 := keepC a5 hb; have f5 := (hb.frozen (p := ⟨w.heap.size, 5, none⟩) lW0).trans f5; have lx := World.block_lt_of_cell? _ _ a5; dsimp only at lx; have OS := Lib.hid oS; have HB := Lib.hid hb; clear oS hb)
  have oS := OS.out
  have hb := HB.out
  clear OS HB RS
  have z1 := hb.size
  replace ca := ca.keep hb; replace fa := fa.keep hb la; replace la := ca.lt; replace cb := cb.keep hb; replace fb := fb.keep hb lb; replace lb := cb.lt; replace hW := then_ hW hb
  clear hb rS a5 f5
  replace ca := (ca.put 5 (.slice A1 n c1)); replace fa := (fa.set ⟨w.heap.size, 5, none⟩ (.slice A1 n c1)); replace cb := (cb.other ⟨w.heap.size, 5, none⟩ (.slice A1 n c1) n01); replace fb := (fb.set ⟨w.heap.size, 5, none⟩ (.slice A1 n c1)); replace oS := (own_setp oS lW0 5 (.slice A1 n c1)); replace hW := (hW.setCell (p := ⟨w.heap.size, 5, none⟩) l0 (.slice A1 n c1)); obtain ⟨U1, hU1e⟩ : ∃ U1, U1 = (w1.setCell ⟨w.heap.size, 5, none⟩ (.slice A1 n c1)) := ⟨_, rfl⟩; have zU1 : U1.heap.size = w1.heap.size := (by rw [hU1e]; simp); rw [← hU1e] at ca fa cb fb oS hW; rw [← hU1e]; clear hU1e; replace la := ca.lt; replace lb := cb.lt
  have a6 := ca 6 _ rfl; have a7 := ca 7 _ rfl; have a8 := ca 8 _ rfl; have a9 := ca 9 _ rfl
  go_wp2_with fail
  (with_reducible refine (KB.out _ (rB.step hW)).mono ?_)
  rintro e w2 ⟨B1, d1, rfl, oB, hb⟩
  clear a6 a7 a8 a9
  have apSB := apart_base oS oB (Nat.le_refl _)
  replace oB := owns_mono oB (show W.heap.size ≤ U1.heap.size by omega)
  have z2 := hb.size
  replace ca := ca.keep hb; replace fa := fa.keep hb la; replace la := ca.lt; replace cb := cb.keep hb; replace fb := fb.keep hb lb; replace lb := cb.lt; replace oS := owns_below oS hb; replace hW := then_ hW hb
  clear hb rB KB
  have a6 := ca 6 _ rfl; have a7 := ca 7 _ rfl; have a8 := ca 8 _ rfl; have a9 := ca 9 _ rfl
  have f6 := fa 6; have f7 := fa 7; have f8 := fa 8; have f9 := fa 9
  go_upto_region 3 with fail
  clear a6 a7 a8 a9 f6 f7 f8 f9
  replace ca := ((((ca.put 6 (.int .i64 s.mir)).put 7 (.complex .f32 s.gr.1 s.gr.2)).put 8 (.float .f32 s.loss)).put 9 (.slice B1 m d1)); replace fa := ((((fa.set ⟨w.heap.size, 6, none⟩ (.int .i64 s.mir)).set ⟨w.heap.size, 7, none⟩ (.complex .f32 s.gr.1 s.gr.2)).set ⟨w.heap.size, 8, none⟩ (.float .f32 s.loss)).set ⟨w.heap.size, 9, none⟩ (.slice B1 m d1)); replace cb := ((((cb.other ⟨w.heap.size, 6, none⟩ (.int .i64 s.mir) n01).other ⟨w.heap.size, 7, none⟩ (.complex .f32 s.gr.1 s.gr.2) n01).other ⟨w.heap.size, 8, none⟩ (.float .f32 s.loss) n01).other ⟨w.heap.size, 9, none⟩ (.slice B1 m d1) n01); replace fb := ((((fb.set ⟨w.heap.size, 6, none⟩ (.int .i64 s.mir)).set ⟨w.heap.size, 7, none⟩ (.complex .f32 s.gr.1 s.gr.2)).set ⟨w.heap.size, 8, none⟩ (.float .f32 s.loss)).set ⟨w.heap.size, 9, none⟩ (.slice B1 m d1)); replace oS := (own_setp (own_setp (own_setp (own_setp oS lW0 6 (.int .i64 s.mir)) lW0 7 (.complex .f32 s.gr.1 s.gr.2)) lW0 8 (.float .f32 s.loss)) lW0 9 (.slice B1 m d1)); replace oB := (own_setp (own_setp (own_setp (own_setp oB lW0 6 (.int .i64 s.mir)) lW0 7 (.complex .f32 s.gr.1 s.gr.2)) lW0 8 (.float .f32 s.loss)) lW0 9 (.slice B1 m d1)); replace hW := ((((hW.setCell (p := ⟨w.heap.size, 6, none⟩) l0 (.int .i64 s.mir)).setCell (p := ⟨w.heap.size, 7, none⟩) l0 (.complex .f32 s.gr.1 s.gr.2)).setCell (p := ⟨w.heap.size, 8, none⟩) l0 (.float .f32 s.loss)).setCell (p := ⟨w.heap.size, 9, none⟩) l0 (.slice B1 m d1)); obtain ⟨U2, hU2e⟩ : ∃ U2, U2 = ((((w2.setCell ⟨w.heap.size, 6, none⟩ (.int .i64 s.mir)).setCell ⟨w.heap.size, 7, none⟩ (.complex .f32 s.gr.1 s.gr.2)).setCell ⟨w.heap.size, 8, none⟩ (.float .f32 s.loss)).setCell ⟨w.heap.size, 9, none⟩ (.slice B1 m d1)) := ⟨_, rfl⟩; have zU2 : U2.heap.size = w2.heap.size := (by rw [hU2e]; simp); rw [← hU2e] at ca fa cb fb oS oB hW; rw [← hU2e]; clear hU2e; replace la := ca.lt; replace lb := cb.lt
  have le2 : W.heap.size ≤ U2.heap.size := by omega
  have ZU := Lib.hid zU2
  clear zU2
  have a11 := ca 11 _ rfl
  have f11 := fa 11
  have RL := Lib.hid (rL.step hW)
  have lU0 := ca.lt
  go_upto_region 4 with (at_builtin; refine wpList_copy_lit U2 rfl _ _ 32 rfl 38 j0 (.agg #[.int .i64 0, .int .i64 0, .complex .f32 0 0, .complex .f32 0 0, .complex .f32 0 0, .complex .f32 0 0, .float .f32 0, .float .f32 0, .float .f32 0, .float .f32 0, .float .f32 0, .float .f32 0, .float .f32 0]) 13 80 Tryz.underlying32 hj hy0 hy1 hy2 rfl (by decide) evC_len (by rfl) L p q s.log (by rfl) RL.out (evC_one _) (by unfold maxLen; omega) (by omega) ?_; intro L1 q1 w3 oL hb; have a11 := keepC a11 hb; have f11 := (hb.frozen (p := ⟨w.heap.size, 11, none⟩) lU0).trans f11; have lx := World.block_lt_of_cell? _ _ a11; dsimp only at lx; have OL := Lib.hid oL; have HB := Lib.hid hb; clear oL hb)
  have oL := OL.out
  have hb := HB.out
  clear OL HB RL a11 f11
  have apSL := apart_base oS oL (Nat.le_refl _)
  have apBL := apart_base oB oL (Nat.le_refl _)
  replace oL := owns_mono oL le2
  have zU2 := ZU.out
  have z3 := hb.size
  replace ca := ca.keep hb; replace fa := fa.keep hb la; replace la := ca.lt; replace cb := cb.keep hb; replace fb := fb.keep hb lb; replace lb := cb.lt; replace oS := owns_below oS hb; replace oB := owns_below oB hb; replace hW := then_ hW hb
  clear hb rL
  replace ca := (ca.put 11 (.slice L1 p q1)); replace fa := (fa.set ⟨w.heap.size, 11, none⟩ (.slice L1 p q1)); replace cb := (cb.other ⟨w.heap.size, 11, none⟩ (.slice L1 p q1) n01); replace fb := (fb.set ⟨w.heap.size, 11, none⟩ (.slice L1 p q1)); replace oS := (own_setp oS lW0 11 (.slice L1 p q1)); replace oB := (own_setp oB lW0 11 (.slice L1 p q1)); replace oL := (own_setp oL lW0 11 (.slice L1 p q1)); replace hW := (hW.setCell (p := ⟨w.heap.size, 11, none⟩) l0 (.slice L1 p q1)); obtain ⟨U3, hU3e⟩ : ∃ U3, U3 = (w3.setCell ⟨w.heap.size, 11, none⟩ (.slice L1 p q1)) := ⟨_, rfl⟩; have zU3 : U3.heap.size = w3.heap.size := (by rw [hU3e]; simp); rw [← hU3e] at ca fa cb fb oS oB oL hW; rw [← hU3e]; clear hU3e; replace la := ca.lt; replace lb := cb.lt
  have a0 := ca 0 _ rfl; have a1 := ca 1 _ rfl; have a2 := ca 2 _ rfl; have a3 := ca 3 _ rfl; have a4 := ca 4 _ rfl; have a5 := ca 5 _ rfl; have a6 := ca 6 _ rfl; have a7 := ca 7 _ rfl; have a8 := ca 8 _ rfl; have a9 := ca 9 _ rfl; have a10 := ca 10 _ rfl; have a11 := ca 11 _ rfl
  have b0 := cb 0 _ rfl; have b1 := cb 1 _ rfl; have b2 := cb 2 _ rfl; have b3 := cb 3 _ rfl; have b4 := cb 4 _ rfl; have b5 := cb 5 _ rfl; have b6 := cb 6 _ rfl; have b7 := cb 7 _ rfl; have b8 := cb 8 _ rfl; have b9 := cb 9 _ rfl; have b10 := cb 10 _ rfl; have b11 := cb 11 _ rfl
  have f0 := fb 0; have f1 := fb 1; have f2 := fb 2; have f3 := fb 3; have f4 := fb 4; have f5 := fb 5; have f6 := fb 6; have f7 := fb 7; have f8 := fb 8; have f9 := fb 9; have f10 := fb 10; have f11 := fb 11
  go_wp2
  clear b0 b1 b2 b3 b4 b5 b6 b7 b8 b9 b10 b11
  replace cb := ((((((((((((cb.put 0 (.int .i64 s.sz)).put 1 (.float .f32 s.st)).put 2 (.float .f32 s.li.1)).put 3 (.float .f32 s.li.2.1)).put 4 (.float .f32 s.li.2.2)).put 5 (.slice A1 n c1)).put 6 (.int .i64 s.mir)).put 7 (.complex .f32 s.gr.1 s.gr.2)).put 8 (.float .f32 s.loss)).put 9 (.slice B1 m d1)).put 10 (.int .i64 s.tk)).put 11 (.slice L1 p q1)); replace fb := ((((((((((((fb.set ⟨w.heap.size + 1, 0, none⟩ (.int .i64 s.sz)).set ⟨w.heap.size + 1, 1, none⟩ (.float .f32 s.st)).set ⟨w.heap.size + 1, 2, none⟩ (.float .f32 s.li.1)).set ⟨w.heap.size + 1, 3, none⟩ (.float .f32 s.li.2.1)).set ⟨w.heap.size + 1, 4, none⟩ (.float .f32 s.li.2.2)).set ⟨w.heap.size + 1, 5, none⟩ (.slice A1 n c1)).set ⟨w.heap.size + 1, 6, none⟩ (.int .i64 s.mir)).set ⟨w.heap.size + 1, 7, none⟩ (.complex .f32 s.gr.1 s.gr.2)).set ⟨w.heap.size + 1, 8, none⟩ (.float .f32 s.loss)).set ⟨w.heap.size + 1, 9, none⟩ (.slice B1 m d1)).set ⟨w.heap.size + 1, 10, none⟩ (.int .i64 s.tk)).set ⟨w.heap.size + 1, 11, none⟩ (.slice L1 p q1)); replace oS := (own_setp (own_setp (own_setp (own_setp (own_setp (own_setp (own_setp (own_setp (own_setp (own_setp (own_setp (own_setp oS lW1 0 (.int .i64 s.sz)) lW1 1 (.float .f32 s.st)) lW1 2 (.float .f32 s.li.1)) lW1 3 (.float .f32 s.li.2.1)) lW1 4 (.float .f32 s.li.2.2)) lW1 5 (.slice A1 n c1)) lW1 6 (.int .i64 s.mir)) lW1 7 (.complex .f32 s.gr.1 s.gr.2)) lW1 8 (.float .f32 s.loss)) lW1 9 (.slice B1 m d1)) lW1 10 (.int .i64 s.tk)) lW1 11 (.slice L1 p q1)); replace oB := (own_setp (own_setp (own_setp (own_setp (own_setp (own_setp (own_setp (own_setp (own_setp (own_setp (own_setp (own_setp oB lW1 0 (.int .i64 s.sz)) lW1 1 (.float .f32 s.st)) lW1 2 (.float .f32 s.li.1)) lW1 3 (.float .f32 s.li.2.1)) lW1 4 (.float .f32 s.li.2.2)) lW1 5 (.slice A1 n c1)) lW1 6 (.int .i64 s.mir)) lW1 7 (.complex .f32 s.gr.1 s.gr.2)) lW1 8 (.float .f32 s.loss)) lW1 9 (.slice B1 m d1)) lW1 10 (.int .i64 s.tk)) lW1 11 (.slice L1 p q1)); replace oL := (own_setp (own_setp (own_setp (own_setp (own_setp (own_setp (own_setp (own_setp (own_setp (own_setp (own_setp (own_setp oL lW1 0 (.int .i64 s.sz)) lW1 1 (.float .f32 s.st)) lW1 2 (.float .f32 s.li.1)) lW1 3 (.float .f32 s.li.2.1)) lW1 4 (.float .f32 s.li.2.2)) lW1 5 (.slice A1 n c1)) lW1 6 (.int .i64 s.mir)) lW1 7 (.complex .f32 s.gr.1 s.gr.2)) lW1 8 (.float .f32 s.loss)) lW1 9 (.slice B1 m d1)) lW1 10 (.int .i64 s.tk)) lW1 11 (.slice L1 p q1)); replace hW := ((((((((((((hW.setCell (p := ⟨w.heap.size + 1, 0, none⟩) l1 (.int .i64 s.sz)).setCell (p := ⟨w.heap.size + 1, 1, none⟩) l1 (.float .f32 s.st)).setCell (p := ⟨w.heap.size + 1, 2, none⟩) l1 (.float .f32 s.li.1)).setCell (p := ⟨w.heap.size + 1, 3, none⟩) l1 (.float .f32 s.li.2.1)).setCell (p := ⟨w.heap.size + 1, 4, none⟩) l1 (.float .f32 s.li.2.2)).setCell (p := ⟨w.heap.size + 1, 5, none⟩) l1 (.slice A1 n c1)).setCell (p := ⟨w.heap.size + 1, 6, none⟩) l1 (.int .i64 s.mir)).setCell (p := ⟨w.heap.size + 1, 7, none⟩) l1 (.complex .f32 s.gr.1 s.gr.2)).setCell (p := ⟨w.heap.size + 1, 8, none⟩) l1 (.float .f32 s.loss)).setCell (p := ⟨w.heap.size + 1, 9, none⟩) l1 (.slice B1 m d1)).setCell (p := ⟨w.heap.size + 1, 10, none⟩) l1 (.int .i64 s.tk)).setCell (p := ⟨w.heap.size + 1, 11, none⟩) l1 (.slice L1 p q1)); obtain ⟨F, hFe⟩ : ∃ F, F = ((((((((((((U3.setCell ⟨w.heap.size + 1, 0, none⟩ (.int .i64 s.sz)).setCell ⟨w.heap.size + 1, 1, none⟩ (.float .f32 s.st)).setCell ⟨w.heap.size + 1, 2, none⟩ (.float .f32 s.li.1)).setCell ⟨w.heap.size + 1, 3, none⟩ (.float .f32 s.li.2.1)).setCell ⟨w.heap.size + 1, 4, none⟩ (.float .f32 s.li.2.2)).setCell ⟨w.heap.size + 1, 5, none⟩ (.slice A1 n c1)).setCell ⟨w.heap.size + 1, 6, none⟩ (.int .i64 s.mir)).setCell ⟨w.heap.size + 1, 7, none⟩ (.complex .f32 s.gr.1 s.gr.2)).setCell ⟨w.heap.size + 1, 8, none⟩ (.float .f32 s.loss)).setCell ⟨w.heap.size + 1, 9, none⟩ (.slice B1 m d1)).setCell ⟨w.heap.size + 1, 10, none⟩ (.int .i64 s.tk)).setCell ⟨w.heap.size + 1, 11, none⟩ (.slice L1 p q1)) := ⟨_, rfl⟩; have zF : F.heap.size = U3.heap.size := (by rw [hFe]; simp); rw [← hFe] at cb fb oS oB oL hW; rw [← hFe]; clear hFe; replace lb := cb.lt
  have b0 := cb 0 _ rfl; have b1 := cb 1 _ rfl; have b2 := cb 2 _ rfl; have b3 := cb 3 _ rfl; have b4 := cb 4 _ rfl; have b5 := cb 5 _ rfl; have b6 := cb 6 _ rfl; have b7 := cb 7 _ rfl; have b8 := cb 8 _ rfl; have b9 := cb 9 _ rfl; have b10 := cb 10 _ rfl; have b11 := cb 11 _ rfl
  refine bodyPost_ret (v := .agg #[.int .i64 s.sz, .float .f32 s.st, .float .f32 s.li.1, .float .f32 s.li.2.1, .float .f32 s.li.2.2, .slice A1 n c1, .int .i64 s.mir, .complex .f32 s.gr.1 s.gr.2, .float .f32 s.loss, .slice B1 m d1, .int .i64 s.tk, .slice L1 p q1]) (by simp [results, Tryz.results61, go_sem, b0, b1, b2, b3, b4, b5, b6, b7, b8, b9, b10, b11]) rfl ⟨⟨A1, B1, L1, c1, d1, q1, rfl, owns_mono oS (by omega), owns_mono oB (by omega), owns_mono oL (by omega), apSB, apSL, apBL⟩, hW⟩
end Go.Proofs.YthlphmojldbpkaaGreat

/- A block that is none of a show's rows. -/
namespace Go.Proofs.YthlphmojldbpkaaGreat
open Go.RowKit

/-- none of a show's rows is the block g -/
def OffS (t : Shw) (A B L : Option Addr) (c d q g : Nat) : Prop := Off (.slice A t.sh.length c) g ∧ Off (.slice B t.bs.length d) g ∧ Off (.slice L t.log.length q) g
theorem OwnS.offNew {w : World} {base g : Nat} {t : Shw} {A B L : Option Addr} {c d q : Nat} (h : OwnS w base t A B L c d q) (hg : w.heap.size ≤ g) : OffS t A B L c d q g := ⟨off_ge h.1 hg, off_ge h.2.1 hg, off_ge h.2.2.1 hg⟩
theorem OwnS.offLt {w : World} {base g : Nat} {t : Shw} {A B L : Option Addr} {c d q : Nat} (h : OwnS w base t A B L c d q) (hg : g < base) : OffS t A B L c d q g := ⟨off_lt h.1 hg, off_lt h.2.1 hg, off_lt h.2.2.1 hg⟩
theorem InS.off {O : Nat → Prop} {x g : Nat} {t : Shw} {A B L : Option Addr} {c d q : Nat} (h : InS O x t A B L c d q) (hO : ¬ O g) (hg : g < x) : OffS t A B L c d q g := by
  have off : ∀ v, InO O x v → Off v g := fun v hv e => by
    rcases hv g e with k | k
    · exact hO k
    · omega
  exact ⟨off _ h.1, off _ h.2.1, off _ h.2.2⟩
theorem OwnS.setO {w : World} {base g : Nat} {t : Shw} {A B L : Option Addr} {c d q : Nat} (h : OwnS w base t A B L c d q) (ho : OffS t A B L c d q g) (i : Nat) (u : Value) : OwnS (w.setCell ⟨g, i, none⟩ u) base t A B L c d q :=
  ⟨own_set h.1 ho.1 i u, own_set h.2.1 ho.2.1 i u, own_set h.2.2.1 ho.2.2 i u, h.2.2.2⟩
end Go.Proofs.YthlphmojldbpkaaGreat

/- NewShow, both versions; shows without glass, beads and events held against each other and marked. -/
namespace Go.Proofs.YthlphmojldbpkaaGreat
open Go.RowKit
attribute [local go_sem] run_store_float run_store_complex

set_option maxHeartbeats 2000000 in
theorem specIsTumble_nil (kind : Int) (w : World) :
    Calls Tryz.prog 130 #[bareV kind] w fun e w' => e = .returned (.bool (inB kind 0 3)) ∧ Below w.heap.size w w' := by
  unfold bareV
  cases h1 : inB kind 0 3
  · go_enter Tryz.func130, Tryz.ntmps130
    go_wp2_with (go_at_call 126; (with_reducible refine (l1In_any _ _ _ _).mono ?_); rintro e w' ⟨rfl, rfl⟩; simp only [h1])
    go_ret
    exact ⟨rfl, by (repeat (first | with_reducible assumption | exact Below.refl _ _ | (refine Below.setCell ?_ (by first | exact Nat.le_refl _ | (simp; done) | omega | (simp; omega)) _) | (refine below_drewN ?_ _) | (refine Below.drew ?_) | (refine Below.alloc ?_ (by first | exact Nat.le_refl _ | (simp; done) | omega | (simp; omega)) _) | (refine then_ ?_ (by with_reducible assumption)) | assumption | (refine then_ ?_ (by assumption))))⟩
  · have h2 : pointB 0 0 = true := by decide +kernel
    have h3 : partB 0 = true := by decide +kernel
    go_enter Tryz.func130, Tryz.ntmps130
    go_wp2_with fail
    (with_reducible refine (l1In_any _ _ _ _).mono ?_)
    rw [h1]
    rintro e w' ⟨rfl, rfl⟩
    go_wp2_with fail
    (with_reducible refine (specIsPoint_any 0 0 _).mono ?_)
    rw [h2]
    rintro e w' ⟨rfl, n1, rfl⟩
    go_wp2_with fail
    (with_reducible refine (l2Part_any _ _).mono ?_)
    rw [h3]
    rintro e w' ⟨rfl, n2, rfl⟩
    go_wp2_with fail
    obtain ⟨W, hWe⟩ : ∃ W, W = ((w.alloc (Obj.cells #[.int .i64 kind, .complex .f32 0 0, .float .f32 0, .slice none 0 0] 31)).drewN (n1 + n2)) := ⟨_, rfl⟩
    have hW : Below w.heap.size w W := by rw [hWe]; exact below_drewN (by (repeat (first | with_reducible assumption | exact Below.refl _ _ | (refine Below.setCell ?_ (by first | exact Nat.le_refl _ | (simp; done) | omega | (simp; omega)) _) | (refine below_drewN ?_ _) | (refine Below.drew ?_) | (refine Below.alloc ?_ (by first | exact Nat.le_refl _ | (simp; done) | omega | (simp; omega)) _) | (refine then_ ?_ (by with_reducible assumption)) | assumption | (refine then_ ?_ (by assumption))))) _
    rw [← hWe]
    clear hWe
    go_loopw [30] (fun i wr => i = .int .i64 0 ∧ W = wr) (fun _ _ => 0)
    case atStart => exact ⟨rfl, rfl⟩
    case round =>
      obtain ⟨rfl, rfl⟩ := hrel
      go_wp2
      go_ret
      exact ⟨rfl, hW⟩

set_option maxRecDepth 100000 in
set_option maxHeartbeats 8000000 in
theorem specIsShow_new (kind size : Int) (step r g b : Nat) (w : World) :
    Calls Tryz.prog 98 #[newV kind size step r g b] w fun e w' => e = .returned (.bool (newOk kind size step r g b)) ∧ Below w.heap.size w w' := by
  unfold newV
  have NO := Lib.hid (show newOk kind size step r g b = (inB size 1 8 && ((finB step && (!leB step 0 && !gtB step 1132462080)) && (colB (r, g, b) && inB kind 0 3))) by unfold newOk; rw [step_parts])
  have e1 : (FloatKind.f32.format.order step 0 == some .lt || FloatKind.f32.format.order step 0 == some .eq) = leB step 0 := rfl
  have e2 : (FloatKind.f32.format.order step 1132462080 == some .gt) = gtB step 1132462080 := rfl
  cases h1 : inB size 1 8
  · have R := Lib.hid (show newOk kind size step r g b = false by rw [NO.out, h1]; rfl)
    clear e1 e2
    go_enter Tryz.func98, Tryz.ntmps98
    go_wp2_with (go_at_call 126; (with_reducible refine (l1In_any size 1 8 _).mono ?_); rintro e w' ⟨rfl, rfl⟩; simp only [h1])
    go_ret
    exact ⟨by rw [R.out]; rfl, by (repeat (first | with_reducible assumption | exact Below.refl _ _ | (refine Below.setCell ?_ (by first | exact Nat.le_refl _ | (simp; done) | omega | (simp; omega)) _) | (refine below_drewN ?_ _) | (refine Below.drew ?_) | (refine Below.alloc ?_ (by first | exact Nat.le_refl _ | (simp; done) | omega | (simp; omega)) _) | (refine then_ ?_ (by with_reducible assumption)) | assumption | (refine then_ ?_ (by assumption))))⟩
  · cases h2 : finB step
    · have R := Lib.hid (show newOk kind size step r g b = false by rw [NO.out, h1, h2]; rfl)
      clear e1 e2
      go_enter Tryz.func98, Tryz.ntmps98
      go_wp2_with fail
      (with_reducible refine (l1In_any size 1 8 _).mono ?_)
      rw [h1]
      rintro e w' ⟨rfl, rfl⟩
      go_wp2_with fail
      (with_reducible refine (l1Single_any _ _).mono ?_)
      rw [h2]
      rintro e w' ⟨rfl, n1, rfl⟩
      go_wp2
      go_ret
      exact ⟨by rw [R.out]; rfl, below_drewN (by (repeat (first | with_reducible assumption | exact Below.refl _ _ | (refine Below.setCell ?_ (by first | exact Nat.le_refl _ | (simp; done) | omega | (simp; omega)) _) | (refine below_drewN ?_ _) | (refine Below.drew ?_) | (refine Below.alloc ?_ (by first | exact Nat.le_refl _ | (simp; done) | omega | (simp; omega)) _) | (refine then_ ?_ (by with_reducible assumption)) | assumption | (refine then_ ?_ (by assumption))))) _⟩
    · cases h3 : leB step 0
      · cases h4 : gtB step 1132462080
        · rw [h3] at e1
          rw [h4] at e2
          have NO := Lib.hid (show newOk kind size step r g b = (colB (r, g, b) && inB kind 0 3) by rw [NO.out, h1, h2, h3, h4]; rfl)
          have KC := Lib.hid (fun w => specIsColour_any r g b w)
          have KT := Lib.hid (fun w => specIsTumble_nil kind w)
          unfold bareV at KT
          have ht : inB 0 0 200 = true := by decide
          clear h3 h4
          go_enter Tryz.func98, Tryz.ntmps98
          go_wp2_with fail
          (with_reducible refine (l1In_any size 1 8 _).mono ?_)
          rw [h1]
          rintro e w' ⟨rfl, rfl⟩
          go_wp2_with fail
          (with_reducible refine (l1Single_any _ _).mono ?_)
          rw [h2]
          rintro e w' ⟨rfl, n1, rfl⟩
          go_wp2_with fail
          obtain ⟨W, hWe⟩ : ∃ W, W = (w.alloc (Obj.cells #[.int .i64 size, .float .f32 step, .float .f32 r, .float .f32 g, .float .f32 b, .slice none 0 0, .int .i64 kind, .complex .f32 0 0, .float .f32 0, .slice none 0 0, .int .i64 0, .slice none 0 0] 34)).drewN n1 := ⟨_, rfl⟩
          have hW : Below w.heap.size w W := by rw [hWe]; exact below_drewN (by (repeat (first | with_reducible assumption | exact Below.refl _ _ | (refine Below.setCell ?_ (by first | exact Nat.le_refl _ | (simp; done) | omega | (simp; omega)) _) | (refine below_drewN ?_ _) | (refine Below.drew ?_) | (refine Below.alloc ?_ (by first | exact Nat.le_refl _ | (simp; done) | omega | (simp; omega)) _) | (refine then_ ?_ (by with_reducible assumption)) | assumption | (refine then_ ?_ (by assumption))))) _
          have c0 : W.cell? ⟨w.heap.size, 0, none⟩ = some (.int .i64 size) := by (rw [hWe]; show (w.alloc _).cell? _ = _; simp [go_sem])
          have c1 : W.cell? ⟨w.heap.size, 1, none⟩ = some (.float .f32 step) := by (rw [hWe]; show (w.alloc _).cell? _ = _; simp [go_sem])
          have c2 : W.cell? ⟨w.heap.size, 2, none⟩ = some (.float .f32 r) := by (rw [hWe]; show (w.alloc _).cell? _ = _; simp [go_sem])
          have c3 : W.cell? ⟨w.heap.size, 3, none⟩ = some (.float .f32 g) := by (rw [hWe]; show (w.alloc _).cell? _ = _; simp [go_sem])
          have c4 : W.cell? ⟨w.heap.size, 4, none⟩ = some (.float .f32 b) := by (rw [hWe]; show (w.alloc _).cell? _ = _; simp [go_sem])
          have c5 : W.cell? ⟨w.heap.size, 5, none⟩ = some (.slice none 0 0) := by (rw [hWe]; show (w.alloc _).cell? _ = _; simp [go_sem])
          have c6 : W.cell? ⟨w.heap.size, 6, none⟩ = some (.int .i64 kind) := by (rw [hWe]; show (w.alloc _).cell? _ = _; simp [go_sem])
          have c7 : W.cell? ⟨w.heap.size, 7, none⟩ = some (.complex .f32 0 0) := by (rw [hWe]; show (w.alloc _).cell? _ = _; simp [go_sem])
          have c8 : W.cell? ⟨w.heap.size, 8, none⟩ = some (.float .f32 0) := by (rw [hWe]; show (w.alloc _).cell? _ = _; simp [go_sem])
          have c9 : W.cell? ⟨w.heap.size, 9, none⟩ = some (.slice none 0 0) := by (rw [hWe]; show (w.alloc _).cell? _ = _; simp [go_sem])
          have c10 : W.cell? ⟨w.heap.size, 10, none⟩ = some (.int .i64 0) := by (rw [hWe]; show (w.alloc _).cell? _ = _; simp [go_sem])
          have c11 : W.cell? ⟨w.heap.size, 11, none⟩ = some (.slice none 0 0) := by (rw [hWe]; show (w.alloc _).cell? _ = _; simp [go_sem])
          have lW : w.heap.size < W.heap.size := World.block_lt_of_cell? _ _ c0
          rw [← hWe]
          clear hWe
          (with_reducible refine (KC.out _).mono ?_)
          cases h5 : colB (r, g, b)
          · rintro e w1 ⟨rfl, hb1⟩
            have B1 := then_ hW hb1
            clear hb1
            go_wp2
            go_ret
            exact ⟨by rw [NO.out, h5]; rfl, B1⟩
          · rintro e w1 ⟨rfl, hb1⟩
            have B1 := then_ hW hb1
            have c0 := keepC c0 hb1
            have c1 := keepC c1 hb1
            have c2 := keepC c2 hb1
            have c3 := keepC c3 hb1
            have c4 := keepC c4 hb1
            have c5 := keepC c5 hb1
            have c6 := keepC c6 hb1
            have c7 := keepC c7 hb1
            have c8 := keepC c8 hb1
            have c9 := keepC c9 hb1
            have c10 := keepC c10 hb1
            have c11 := keepC c11 hb1
            have lW : w.heap.size < w1.heap.size := World.block_lt_of_cell? _ _ c0
            clear hb1
            go_wp2_with fail
            (with_reducible refine (specAreShards_nil _).mono ?_)
            rintro e w' ⟨rfl, rfl⟩
            go_wp2_with fail
            (with_reducible refine (KT.out _).mono ?_)
            cases h6 : inB kind 0 3
            · rintro e w2 ⟨rfl, hb2⟩
              have B2 := then_ B1 hb2
              clear hb2
              go_wp2
              go_ret
              exact ⟨by rw [NO.out, h5, h6]; rfl, B2⟩
            · rintro e w2 ⟨rfl, hb2⟩
              have B2 := then_ B1 hb2
              have c0 := keepC c0 hb2
              have c1 := keepC c1 hb2
              have c2 := keepC c2 hb2
              have c3 := keepC c3 hb2
              have c4 := keepC c4 hb2
              have c5 := keepC c5 hb2
              have c6 := keepC c6 hb2
              have c7 := keepC c7 hb2
              have c8 := keepC c8 hb2
              have c9 := keepC c9 hb2
              have c10 := keepC c10 hb2
              have c11 := keepC c11 hb2
              have lW : w.heap.size < w2.heap.size := World.block_lt_of_cell? _ _ c0
              clear hb2
              go_wp2_with fail
              (with_reducible refine (l1In_any 0 0 200 _).mono ?_)
              rw [ht]
              rintro e w' ⟨rfl, rfl⟩
              go_wp2_with fail
              go_loopw [62] (fun i wr => i = .int .i64 0 ∧ w2 = wr) (fun _ _ => 0)
              case atStart => exact ⟨rfl, rfl⟩
              case round =>
                obtain ⟨rfl, rfl⟩ := hrel
                go_wp2
                go_ret
                exact ⟨by rw [NO.out, h5, h6]; rfl, B2⟩
        · have R := Lib.hid (show newOk kind size step r g b = false by rw [NO.out, h1, h2, h3, h4]; rfl)
          rw [h3] at e1
          rw [h4] at e2
          clear h3 h4
          go_enter Tryz.func98, Tryz.ntmps98
          go_wp2_with fail
          (with_reducible refine (l1In_any size 1 8 _).mono ?_)
          rw [h1]
          rintro e w' ⟨rfl, rfl⟩
          go_wp2_with fail
          (with_reducible refine (l1Single_any _ _).mono ?_)
          rw [h2]
          rintro e w' ⟨rfl, n1, rfl⟩
          go_wp2
          go_ret
          exact ⟨by rw [R.out]; rfl, below_drewN (by (repeat (first | with_reducible assumption | exact Below.refl _ _ | (refine Below.setCell ?_ (by first | exact Nat.le_refl _ | (simp; done) | omega | (simp; omega)) _) | (refine below_drewN ?_ _) | (refine Below.drew ?_) | (refine Below.alloc ?_ (by first | exact Nat.le_refl _ | (simp; done) | omega | (simp; omega)) _) | (refine then_ ?_ (by with_reducible assumption)) | assumption | (refine then_ ?_ (by assumption))))) _⟩
      · have R := Lib.hid (show newOk kind size step r g b = false by rw [NO.out, h1, h2, h3]; rfl)
        rw [h3] at e1
        clear h3 e2
        go_enter Tryz.func98, Tryz.ntmps98
        go_wp2_with fail
        (with_reducible refine (l1In_any size 1 8 _).mono ?_)
        rw [h1]
        rintro e w' ⟨rfl, rfl⟩
        go_wp2_with fail
        (with_reducible refine (l1Single_any _ _).mono ?_)
        rw [h2]
        rintro e w' ⟨rfl, n1, rfl⟩
        go_wp2
        go_ret
        exact ⟨by rw [R.out]; rfl, below_drewN (by (repeat (first | with_reducible assumption | exact Below.refl _ _ | (refine Below.setCell ?_ (by first | exact Nat.le_refl _ | (simp; done) | omega | (simp; omega)) _) | (refine below_drewN ?_ _) | (refine Below.drew ?_) | (refine Below.alloc ?_ (by first | exact Nat.le_refl _ | (simp; done) | omega | (simp; omega)) _) | (refine then_ ?_ (by with_reducible assumption)) | assumption | (refine then_ ?_ (by assumption))))) _⟩
end Go.Proofs.YthlphmojldbpkaaGreat
