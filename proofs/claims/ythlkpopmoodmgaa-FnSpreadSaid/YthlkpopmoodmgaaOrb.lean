
/- OrbitOf at small whole points: how many points there are. -/
import Derived.Test.YthlkpopmoodmgaaSort2
import Derived.Test.YthlkpopmoodmgaaSyms
import Derived.Test.YthlkpopmoodmgaaGeoI
import Derived.Test.YthlkpopmoodmgaaCellTo
namespace Go.Proofs.Ythlkpopmoodmgaa
open Go.RowKit

theorem fl_eq_all : ∀ a : Nat, a < 17 → ∀ b : Nat, b < 17 → (FloatKind.f32.format.order (fl ((a : Int) - 8)) (fl ((b : Int) - 8)) == some .eq) = decide (a = b) := by decide +kernel
theorem fl_eq {x y : Int} (h1 : -8 ≤ x) (h2 : x ≤ 8) (h3 : -8 ≤ y) (h4 : y ≤ 8) : (FloatKind.f32.format.order (fl x) (fl y) == some .eq) = decide (x = y) := by
  have h := fl_eq_all (x + 8).toNat (by omega) (y + 8).toNat (by omega)
  rw [show (((x + 8).toNat : Nat) : Int) - 8 = x from by omega, show (((y + 8).toNat : Nat) : Int) - 8 = y from by omega] at h
  rw [h]
  exact decide_eq_decide.2 (by omega)
def inP (l : List (Int × Int)) (q : Int × Int) : Bool := l.contains q
theorem inP_yes {l : List (Int × Int)} {i : Nat} {g y : Int × Int} (hx : l[i]? = some y) (h : (decide (g.1 = y.1) && decide (g.2 = y.2)) = true) : inP l g = true := by
  unfold inP
  simp only [Bool.and_eq_true, decide_eq_true_eq] at h
  have e : g = y := Prod.ext h.1 h.2
  rw [List.contains_iff_mem, e]
  exact List.mem_of_getElem? hx
theorem inP_no {l : List (Int × Int)} {g : Int × Int} (h : ∀ (i : Nat) y, l[i]? = some y → (decide (g.1 = y.1) && decide (g.2 = y.2)) = false) : inP l g = false := by
  unfold inP
  cases hc : l.contains g
  · rfl
  · obtain ⟨i, hi⟩ := List.getElem?_of_mem (List.contains_iff_mem.1 hc)
    have := h i g hi
    simp at this
def Smalls (l : List (Int × Int)) : Prop := ∀ q ∈ l, Sm 8 q
def flC (p : Int × Int) : List Value := [.complex .f32 (fl p.1) (fl p.2)]
theorem flC_len (p : Int × Int) : (flC p).length = 1 := rfl
theorem Rd.cx {w : World} {B : Nat} {A : Option Addr} {n k : Nat} {xs : List (Int × Int)} (h : Rd flC 1 w B A n xs) (hk : k < n) :
    ∃ b off x, A = some ⟨b, off, none⟩ ∧ b < B ∧ xs[k]? = some x ∧ w.cell? ⟨b, off + k, none⟩ = some (.complex .f32 (fl x.1) (fl x.2)) := by
  obtain ⟨b, off, x, e, hb, hx, hc⟩ := h.at_ hk
  have := hc 0 _ rfl
  rw [Nat.mul_one, Nat.add_zero] at this
  exact ⟨b, off, x, e, hb, hx, this⟩

set_option maxRecDepth 100000 in
set_option maxHeartbeats 4000000 in
theorem indexCx_any (q : Int × Int) (G : Option Addr) (m cc : Nat) (l : List (Int × Int)) (w : World) (hm : m ≤ 1048576) (hq : Sm 8 q) (hs : Smalls l) (hl : Rd flC 1 w w.heap.size G m l) :
    Calls Try.prog 121 #[.slice G m cc, .complex .f32 (fl q.1) (fl q.2)] w fun e w' => (∃ i : Int, e = .returned (.int .i64 i) ∧ decide (0 ≤ i) = inP l q) ∧ w = w' := by
  go_enter Try.func121, Try.ntmps121
  go_wp2
  go_loop [5, 8] (fun _ i => ∃ k : Nat, k ≤ m ∧ i = .int .i64 k ∧ (∀ (i : Nat) y, i < k → l[i]? = some y → (decide (q.1 = y.1) && decide (q.2 = y.2)) = false)) (fun _ i => m - (intOf i).toNat)
  case atStart => exact ⟨0, Nat.zero_le _, rfl, fun i y h => by omega⟩
  case round =>
    obtain ⟨k, hk, rfl, hall⟩ := hrel
    have HALL := Lib.hid hall
    clear hall
    by_cases hlt : k < m
    · obtain ⟨b, off, x, rfl, hbl, hx, c0⟩ := hl.cx hlt
      have hki : (k : Int) < (m : Int) := by omega
      have hk0 : (0 : Int) ≤ (k : Int) := by omega
      have hsx := hs x (List.mem_of_getElem? hx)
      have e1 := fl_eq hq.1 hq.2.1 hsx.1 hsx.2.1
      have e2 := fl_eq hq.2.2.1 hq.2.2.2 hsx.2.2.1 hsx.2.2.2
      have HX := Lib.hid hx
      obtain ⟨z1, hz1⟩ : ∃ z, z = decide (q.1 = x.1) := ⟨_, rfl⟩
      obtain ⟨z2, hz2⟩ : ∃ z, z = decide (q.2 = x.2) := ⟨_, rfl⟩
      rw [← hz1] at e1
      rw [← hz2] at e2
      have Z1 := Lib.hid hz1
      have Z2 := Lib.hid hz2
      generalize fl q.1 = a1 at e1 ⊢
      generalize fl q.2 = a2 at e2 ⊢
      generalize fl x.1 = b1 at e1 c0
      generalize fl x.2 = b2 at e2 c0
      clear hx hz1 hz2 hsx
      cases hz : (z1 && z2)
      · have HNO := Lib.hid (show (decide (q.1 = x.1) && decide (q.2 = x.2)) = false by rw [← Z1.out, ← Z2.out]; exact hz)
        cases z1 <;> cases z2 <;> first | (exfalso; revert hz; decide) | skip
        all_goals
          clear hz
          go_wp2
          go_round
          case rel =>
            refine ⟨k + 1, by omega, by go_num, fun i y hi j1 => ?_⟩
            by_cases e : i = k
            · subst e
              rw [HX.out] at j1
              injection j1 with j1
              subst j1
              exact HNO.out
            · exact HALL.out i y (by omega) j1
          case measure => simp [intOf]; omega
      · have HY := Lib.hid (show (decide (q.1 = x.1) && decide (q.2 = x.2)) = true by rw [← Z1.out, ← Z2.out]; exact hz)
        cases z1 <;> cases z2 <;> first | (exfalso; revert hz; decide) | skip
        clear hz
        go_wp2
        go_ret
        exact ⟨⟨_, rfl, by rw [inP_yes HX.out HY.out]; simp⟩, rfl⟩
    · obtain rfl : k = m := by omega
      have hs := Lib.hid (inP_no (l := l) (g := q) (fun i y h1 => HALL.out i y (by have := (List.getElem?_eq_some_iff.1 h1).1; have := hl.1; omega) h1))
      go_wp2
      go_ret
      exact ⟨⟨-1, rfl, by rw [hs.out]; rfl⟩, rfl⟩

theorem containsCx_any (q : Int × Int) (G : Option Addr) (m cc : Nat) (l : List (Int × Int)) (w : World) (hm : m ≤ 1048576) (hq : Sm 8 q) (hs : Smalls l) (hl : Rd flC 1 w w.heap.size G m l) :
    Calls Try.prog 94 #[.slice G m cc, .complex .f32 (fl q.1) (fl q.2)] w fun e w' => e = .returned (.bool (inP l q)) ∧ w = w' := by
  go_enter Try.func94, Try.ntmps94
  go_wp2_with (go_at_call 121; refine (indexCx_any q _ _ _ l _ hm hq hs hl).mono ?_; rintro e w1 ⟨⟨i, rfl, hi⟩, rfl⟩; have HI := Lib.hid hi; clear hi)
  go_ret
  exact ⟨by rw [← HI.out]; rfl, rfl⟩

/-- the points of an orbit, as they come up -/
def orbStep (p : Int × Int) (out : List (Int × Int)) (g : Int × Bool) : List (Int × Int) := if inP out (aI g.1 g.2 p) then out else out ++ [aI g.1 g.2 p]
def orbUp (p : Int × Int) (l : List (Int × Bool)) (k : Nat) : List (Int × Int) := (l.take k).foldl (orbStep p) []
def orbL (kind : Int) (p : Int × Int) : List (Int × Int) := orbUp p (symsL kind) (symsL kind).length
theorem orbUp_succ {p : Int × Int} {l : List (Int × Bool)} {k : Nat} {g : Int × Bool} (hx : l[k]? = some g) : orbUp p l (k + 1) = orbStep p (orbUp p l k) g := by
  unfold orbUp
  rw [List.take_add_one, hx, List.foldl_append]
  rfl
theorem orbUp_yes {p : Int × Int} {l : List (Int × Bool)} {k : Nat} {g : Int × Bool} (hx : l[k]? = some g) (h : inP (orbUp p l k) (aI g.1 g.2 p) = true) : orbUp p l (k + 1) = orbUp p l k := by
  rw [orbUp_succ hx]
  unfold orbStep
  rw [if_pos h]
theorem orbUp_no {p : Int × Int} {l : List (Int × Bool)} {k : Nat} {g : Int × Bool} (hx : l[k]? = some g) (h : inP (orbUp p l k) (aI g.1 g.2 p) = false) : orbUp p l (k + 1) = orbUp p l k ++ [aI g.1 g.2 p] := by
  rw [orbUp_succ hx]
  unfold orbStep
  rw [h]; rfl
theorem orbUp_small {p : Int × Int} {l : List (Int × Bool)} (hp : Sm 8 p) (k : Nat) : Smalls (orbUp p l k) := by
  unfold orbUp
  generalize l.take k = l'
  have : ∀ (l' : List (Int × Bool)) (o : List (Int × Int)), Smalls o → Smalls (l'.foldl (orbStep p) o) := by
    intro l'
    induction l' with
    | nil => intro o h; exact h
    | cons g l' ih =>
      intro o h
      refine ih _ ?_
      unfold orbStep
      split
      · exact h
      · intro q hq
        rcases List.mem_append.1 hq with h1 | h1
        · exact h q h1
        · simp at h1; subst h1; exact aI_sm hp _ _
  exact this l' [] (by intro q hq; simp at hq)
theorem orbUp_len (p : Int × Int) (l : List (Int × Bool)) : ∀ k, (orbUp p l k).length ≤ k
  | 0 => by simp [orbUp]
  | k + 1 => by
    have ih := orbUp_len p l k
    cases hx : l[k]? with
    | none => unfold orbUp at *; rw [List.take_add_one, hx]; simpa using by omega
    | some g =>
      cases h : inP (orbUp p l k) (aI g.1 g.2 p)
      · rw [orbUp_no hx h]; simp; omega
      · rw [orbUp_yes hx h]; omega
theorem infoCx : (Try.prog.info? 72).map (fun i => (i.zero, i.size, i.bytes)) = some (some (.complex .f32 0 0), 1, 8) := by kernel_rfl

set_option maxRecDepth 100000 in
set_option maxHeartbeats 8000000 in
theorem orbitOf_any (kind : Nat) (p : Int × Int) (w : World) (hk4 : kind < 4) (hp : Sm 8 p) :
    Calls Try.prog 55 #[.int .i64 (kind : Int), .complex .f32 (fl p.1) (fl p.2)] w fun e w' => ∃ A c, e = .returned (.slice A (orbL (kind : Int) p).length c) ∧ Below w.heap.size w w' := by
  obtain ⟨i0, hi, hz0, hz1, hz2⟩ := info_parts infoCx
  have hpt := point_small hp
  obtain ⟨l, hl⟩ : ∃ l, l = symsL (kind : Int) := ⟨_, rfl⟩
  have h8 : l.length ≤ 8 := by rw [hl]; exact symsUp_len _ _
  have h1 : 0 < l.length := by
    rw [hl]
    have : ∀ k : Nat, k < 4 → 0 < (symsL (k : Int)).length := by decide
    exact this kind hk4
  have hok : ∀ g ∈ l, inB g.1 0 3 = true := by
    rw [hl]
    have : ∀ k : Nat, k < 4 → ∀ g ∈ symsL (k : Int), inB g.1 0 3 = true := by decide
    exact this kind hk4
  have ks := fun w => symsOf_any (kind : Int) w
  have R := Lib.hid (show orbL (kind : Int) p = orbUp p l l.length by unfold orbL; rw [hl])
  rw [← hl] at ks
  have KS := Lib.hid ks
  have OK := Lib.hid hok
  clear ks hl hok
  go_enter Try.func55, Try.ntmps55
  go_wp2_with fail
  refine (isPoint_any _ _ _).mono ?_
  rw [hpt]
  rintro e w' ⟨rfl, rfl⟩
  go_wp2_with fail
  obtain ⟨V, hVe⟩ : ∃ V, V = w.alloc (Obj.cells #[] 72) := ⟨_, rfl⟩
  have hV : Below w.heap.size w V := by rw [hVe]; (repeat (first | with_reducible assumption | exact Below.refl _ _ | (refine Below.setCell ?_ (by first | exact Nat.le_refl _ | (simp; done) | omega | (simp; omega)) _) | (refine below_drewN ?_ _) | (refine Below.drew ?_) | (refine Below.alloc ?_ (by first | exact Nat.le_refl _ | (simp; done) | omega | (simp; omega)) _) | (refine then_ ?_ (by with_reducible assumption)) | assumption | (refine then_ ?_ (by assumption))))
  have zV : V.heap.size = w.heap.size + 1 := by rw [hVe]; simp
  have o0 : V.ownsRow w.heap.size 72 1 (.slice (some ⟨w.heap.size, 0, none⟩) 0 0) 0 [] := by
    rw [hVe]
    exact World.ownsRow_lit (base := w.heap.size) w #[] 0 (Nat.le_refl _) (by simp [maxLen]) rfl
  rw [← hVe]
  clear hVe
  refine (KS.out _).mono ?_
  rintro e w1 ⟨G, cG, rfl, ho1, hb1⟩
  obtain ⟨ga, rfl, _, _⟩ := owns_slice_at ho1 h1
  have r1 := Rd.of_own symC_len rfl ho1
  obtain ⟨g1, g2⟩ := ho1.lt ga rfl
  have O0 := Lib.hid (owns_below o0 hb1)
  have hW1 := then_ hV hb1
  have z1 := hW1.size
  clear o0 ho1 hb1 hV
  go_wp2_with fail
  go_loopw [5, 16] (fun v i wr => ∃ k : Nat, k ≤ l.length ∧ i = .int .i64 k ∧ (∃ A c, v = .slice A (orbUp p l k).length c) ∧ wr.ownsRow w.heap.size 72 1 v (orbUp p l k).length (flat flC (orbUp p l k)) ∧ Off v ga ∧ Rd symC 2 wr w1.heap.size (some ⟨ga, 0, none⟩) l.length l ∧ w1.heap.size ≤ wr.heap.size ∧ Below w.heap.size w wr) (fun _ i _ => l.length - (intOf i).toNat)
  case atStart => exact ⟨0, by omega, rfl, ⟨_, _, rfl⟩, O0.out, by unfold Off Value.ownBlock; simp; omega, r1, Nat.le_refl _, hW1⟩
  case round =>
    clear O0 r1 hW1
    obtain ⟨k, hk, rfl, ⟨A1, c1, rfl⟩, hown, hoff, hrd, hsz, hw⟩ := hrel
    have OW := Lib.hid hown
    have OFF := Lib.hid hoff
    have RD := Lib.hid hrd
    have LN := orbUp_len p l k
    by_cases hlt : k < l.length
    · obtain ⟨b, off, t, f, e, _, hx, c0, c1'⟩ := hrd.sym hlt
      injection e with e
      injection e with e1 e2
      subst e1 e2
      have ht := OK.out _ (List.mem_of_getElem? hx)
      dsimp only at ht
      have HX := Lib.hid hx
      simp only [Nat.zero_add] at c0 c1'
      have hki : (k : Int) < (l.length : Int) := by omega
      have hk0 : (0 : Int) ≤ (k : Int) := by omega
      have hro := Lib.hid (Rd.of_own flC_len rfl hown)
      clear hx hrd hown hoff
      obtain ⟨q, hq⟩ : ∃ q, q = aI t f p := ⟨_, rfl⟩
      have hsq : Sm 8 q := by rw [hq]; exact aI_sm hp t f
      have hsl := orbUp_small (l := l) hp k
      have ka := fun w => actSym_ok t f (fl p.1) (fl p.2) w ht hpt
      rw [actI_small hp t f, ← hq] at ka
      have KA := Lib.hid ka
      have HQ := Lib.hid hq
      clear ka hq
      go_wp2_with fail
      obtain ⟨W, hWe⟩ : ∃ W, W = wr.alloc (Obj.cells #[.int .i64 t, .bool f] 52) := ⟨_, rfl⟩
      have hW : Below wr.heap.size wr W := by rw [hWe]; (repeat (first | with_reducible assumption | exact Below.refl _ _ | (refine Below.setCell ?_ (by first | exact Nat.le_refl _ | (simp; done) | omega | (simp; omega)) _) | (refine below_drewN ?_ _) | (refine Below.drew ?_) | (refine Below.alloc ?_ (by first | exact Nat.le_refl _ | (simp; done) | omega | (simp; omega)) _) | (refine then_ ?_ (by with_reducible assumption)) | assumption | (refine then_ ?_ (by assumption))))
      have zW : wr.heap.size < W.heap.size := by rw [hWe]; simp
      rw [← hWe]
      clear hWe
      refine (KA.out _).mono ?_
      rintro e w2 ⟨rfl, hb2⟩
      have hB2 := then_ hW hb2
      have z2 := hB2.size
      have OW2 := Lib.hid (owns_below OW.out hB2)
      have hw2 := then_ hw hB2
      simp only [cxV, flP]
      clear hb2 hW c0 c1'
      go_wp2_with fail
      refine (containsCx_any q A1 _ c1 (orbUp p l k) _ (by omega) hsq hsl (hro.out.step hB2)).mono ?_
      cases hc : inP (orbUp p l k) q
      · rintro e w' ⟨rfl, rfl⟩
        have S := Lib.hid (orbUp_no (p := p) HX.out (by rw [← HQ.out]; exact hc))
        clear hc
        go_wp2_with (at_builtin; refine wpList_append_own_at _ rfl _ _ 75 rfl w.heap.size 72 i0 (.complex .f32 0 0) 1 8 Try.underlying75 hi hz0 hz1 hz2 rfl (by decide) _ _ _ rfl (OW2.out.alloc _) ⟨w2.heap.size, 0, none⟩ 1 1 [.complex .f32 (fl q.1) (fl q.2)] rfl rfl ?c13 ?c23 ?c33 ?c43 ?c53 ?_; (case c13 => exact World.news_of_block (cs := #[.complex .f32 (fl q.1) (fl q.2)]) (t := 72) (fr := (0, 0)) (heap_alloc_new w2 _)); (case c23 => simp [Value.oneCell']); (case c33 => unfold maxLen; omega); (case c43 => omega); (case c53 => (have := Below.size hw2; simp only [World.size_alloc]; omega)); intro v3 w3 hown3 hg3 hne3 hat3; simp only [World.size_alloc] at hat3; have GB3 := Lib.hid hg3; have OW3 := Lib.hid hown3; have BW3 := below_append hw2 OW2.out hg3; have NB3 := Lib.hid hat3; clear hown3 hg3 hne3 hat3)
        go_roundw
        case rel =>
          obtain ⟨A3, c3, rfl⟩ := owns_slice OW3.out
          have hA := (show Below w2.heap.size w2 (w2.alloc (Obj.cells #[.complex .f32 (fl q.1) (fl q.2)] 72)) by (repeat (first | with_reducible assumption | exact Below.refl _ _ | (refine Below.setCell ?_ (by first | exact Nat.le_refl _ | (simp; done) | omega | (simp; omega)) _) | (refine below_drewN ?_ _) | (refine Below.drew ?_) | (refine Below.alloc ?_ (by first | exact Nat.le_refl _ | (simp; done) | omega | (simp; omega)) _) | (refine then_ ?_ (by with_reducible assumption)) | assumption | (refine then_ ?_ (by assumption)))))
          have hn : (orbUp p l k ++ [q]).length = (orbUp p l k).length + 1 := by simp
          refine ⟨k + 1, by omega, by go_num, ?_⟩
          rw [S.out, ← HQ.out, hn]
          refine ⟨⟨_, _, rfl⟩, ?_, OFF.out.next (by omega) NB3.out, ?_, ?_, BW3⟩
          · rw [flat_append]
            exact OW3.out
          · exact Rd.grown (Rd.keep RD.out (fun p hp => (then_ hB2 hA).cell (p := p) (by omega))) GB3.out (by simp only [World.size_alloc]; omega) OFF.out
          · have := GB3.out.size
            simp only [World.size_alloc] at this
            omega
        case measure => simp [intOf]; omega
      · rintro e w' ⟨rfl, rfl⟩
        have S := Lib.hid (orbUp_yes (p := p) HX.out (by rw [← HQ.out]; exact hc))
        clear hc
        go_wp2
        go_roundw
        case rel =>
          refine ⟨k + 1, by omega, by go_num, ?_⟩
          rw [S.out]
          exact ⟨⟨_, _, rfl⟩, OW2.out, OFF.out, Rd.keep RD.out (fun p hp => hB2.cell (p := p) (by omega)), by omega, hw2⟩
        case measure => simp [intOf]; omega
    · obtain rfl : k = l.length := by omega
      have hpos : 0 < (orbUp p l l.length).length := by
        obtain ⟨j, hj⟩ : ∃ j, l.length = j + 1 := ⟨l.length - 1, by omega⟩
        obtain ⟨g0, hg0⟩ : ∃ g0, l[j]? = some g0 := ⟨_, List.getElem?_eq_getElem (by omega)⟩
        rw [hj, orbUp_succ hg0]
        unfold orbStep
        split
        · rename_i h
          cases ho : orbUp p l j with
          | nil => rw [ho] at h; cases h
          | cons a b => simp
        · simp
      obtain ⟨n, hn⟩ : ∃ n, n = (orbUp p l l.length).length := ⟨_, rfl⟩
      have e : flat flC (orbUp p l l.length) = flat cxC ((orbUp p l l.length).map flP) := by unfold flat; rw [List.flatMap_map]; rfl
      have hown2 := hown
      rw [e] at hown2
      have hlz : ((orbUp p l l.length).map flP).length = n := by rw [List.length_map, hn]
      rw [← hn] at hown2 hpos LN ⊢
      obtain ⟨g, rfl, _, _⟩ := owns_slice_at hown2 hpos
      have HN := Lib.hid hn
      have OW2 := Lib.hid hown2
      clear hown hown2 hoff hrd hn e
      go_wp2_with fail
      refine (sortFunc_any g n c1 w.heap.size _ _ (by omega) hlz OW2.out).mono ?_
      rintro e w2 ⟨rfl, zs', hlz', ho2, hb2⟩
      have hw2 := hw.trans hb2
      clear ho2 hb2
      go_wp2
      go_ret
      exact ⟨_, _, by rw [R.out, ← HN.out]; rfl, hw2⟩
end Go.Proofs.Ythlkpopmoodmgaa
