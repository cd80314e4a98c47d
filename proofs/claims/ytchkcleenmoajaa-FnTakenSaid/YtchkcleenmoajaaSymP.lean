
/- SymsOfPicture, both versions. -/
import Derived.Test.YtchkcleenmoajaaAct
import Derived.Test.YtchkcleenmoajaaM15
import Derived.Test.YtchkcleenmoajaaKept
namespace Go.Proofs.Ytchkcleenmoajaa
open Go.RowKit
attribute [local go_sem] run_store_float run_store_complex

def keepB (s : Int) (xs : List Col) (g : Int × Bool) : Bool := sameP (actL g.1 g.2 s xs).1 (actL g.1 g.2 s xs).2 s xs
def symsP (s : Int) (xs : List Col) : List (Int × Bool) := if pictB s xs then (symsL 3).filter (keepB s xs) else []
theorem actL_len (t : Int) (f : Bool) (s : Int) (xs : List Col) : (actL t f s xs).2.length ≤ xs.length := by
  unfold actL; split
  · show (actUp _ _ _ _ _).length ≤ _
    rw [actUp_len]; omega
  · simp

set_option maxRecDepth 100000 in
set_option maxHeartbeats 4000000 in
theorem keepF_any (t : Int) (f : Bool) (s : Int) (A : Option Addr) (n c : Nat) (xs : List Col) (b : Nat) (w : World) (hn : n ≤ maxLen) (h0 : w.cell? ⟨b, 0, none⟩ = some (.int .i64 s)) (h1 : w.cell? ⟨b, 1, none⟩ = some (.slice A n c)) (ha : Rd colC 3 w w.heap.size A n xs) :
    Calls Try.prog 41 #[.agg #[.int .i64 t, .bool f], .pointer (some ⟨b, 0, none⟩)] w fun e w' => e = .returned (.bool (!keepB s xs (t, f))) ∧ Below w.heap.size w w' := by
  obtain ⟨Q, hQ⟩ : ∃ Q, Q = actL t f s xs := ⟨_, rfl⟩
  have hr : keepB s xs (t, f) = sameP Q.1 Q.2 s xs := by rw [hQ]; rfl
  have hm : Q.2.length ≤ maxLen := by rw [hQ]; have := actL_len t f s xs; have := ha.1; omega
  have ki := fun A c w h => actPicture_any t f s A n c xs w hn h
  rw [← hQ] at ki
  have KI := Lib.hid ki
  have R := Lib.hid hr
  have lb := World.block_lt_of_cell? _ _ h0
  dsimp only at lb
  clear ki hQ hr
  obtain ⟨s2, ys⟩ := Q
  dsimp only at hm KI R
  go_enter Try.func41, Try.ntmps41
  go_wp2_with fail
  obtain ⟨W, hWe⟩ : ∃ W, W = w.alloc (Obj.cells #[.int .i64 t, .bool f] 31) := ⟨_, rfl⟩
  have hW : Below w.heap.size w W := by rw [hWe]; (repeat (first | with_reducible assumption | exact Below.refl _ _ | (refine Below.setCell ?_ (by first | exact Nat.le_refl _ | (simp; done) | omega | (simp; omega)) _) | (refine below_drewN ?_ _) | (refine Below.drew ?_) | (refine Below.alloc ?_ (by first | exact Nat.le_refl _ | (simp; done) | omega | (simp; omega)) _) | (refine then_ ?_ (by with_reducible assumption)) | assumption | (refine then_ ?_ (by assumption))))
  have zW : w.heap.size < W.heap.size := by rw [hWe]; simp
  have q0 : W.cell? ⟨w.heap.size, 0, none⟩ = some (.int .i64 t) := by rw [hWe]; simp [go_sem]
  have q1 : W.cell? ⟨w.heap.size, 1, none⟩ = some (.bool f) := by rw [hWe]; simp [go_sem]
  rw [← hWe]
  have e0 := keepC h0 hW
  have e1 := keepC h1 hW
  have lb' : b < W.heap.size := by omega
  have ra := ha.step hW
  clear hWe h0 h1
  go_region_held3 (fun w' => (∀ b o, b < W.heap.size → w'.cell? ⟨b, o, none⟩ = W.cell? ⟨b, o, none⟩) ∧ Below W.heap.size W w') (first | assumption | exact startS _ | exact stepS (by assumption) (by assumption)) (first | (go_at_call 11; refine (KI.out _ _ _ (ra.step ?_)).mono ?_; (repeat (first | with_reducible assumption | exact Below.refl _ _ | (refine Below.setCell ?_ (by first | exact Nat.le_refl _ | (simp; done) | omega | (simp; omega)) _) | (refine below_drewN ?_ _) | (refine Below.drew ?_) | (refine Below.alloc ?_ (by first | exact Nat.le_refl _ | (simp; done) | omega | (simp; omega)) _) | (refine then_ ?_ (by with_reducible assumption)) | assumption | (refine then_ ?_ (by assumption)))); rintro e w2 ⟨B2, d2, rfl, ho2, hb2⟩; have r2 := Rd.of_own colC_len rfl ho2; clear ho2) | (go_at_call 10; refine (samePicture_any _ _ _ _ _ _ _ _ ys xs _ hm hn (r2.step ?_) (ra.step ?_)).mono ?_; (repeat (first | with_reducible assumption | exact Below.refl _ _ | (refine Below.setCell ?_ (by first | exact Nat.le_refl _ | (simp; done) | omega | (simp; omega)) _) | (refine below_drewN ?_ _) | (refine Below.drew ?_) | (refine Below.alloc ?_ (by first | exact Nat.le_refl _ | (simp; done) | omega | (simp; omega)) _) | (refine then_ ?_ (by with_reducible assumption)) | assumption | (refine then_ ?_ (by assumption)))); (repeat (first | with_reducible assumption | exact Below.refl _ _ | (refine Below.setCell ?_ (by first | exact Nat.le_refl _ | (simp; done) | omega | (simp; omega)) _) | (refine below_drewN ?_ _) | (refine Below.drew ?_) | (refine Below.alloc ?_ (by first | exact Nat.le_refl _ | (simp; done) | omega | (simp; omega)) _) | (refine then_ ?_ (by with_reducible assumption)) | assumption | (refine then_ ?_ (by assumption)))); rintro e w3 ⟨rfl, hb3⟩))
  go_wp2
  go_ret
  exact ⟨by rw [R.out]; rfl, by (repeat (first | with_reducible assumption | exact Below.refl _ _ | (refine Below.setCell ?_ (by first | exact Nat.le_refl _ | (simp; done) | omega | (simp; omega)) _) | (refine below_drewN ?_ _) | (refine Below.drew ?_) | (refine Below.alloc ?_ (by first | exact Nat.le_refl _ | (simp; done) | omega | (simp; omega)) _) | (refine then_ ?_ (by with_reducible assumption)) | assumption | (refine then_ ?_ (by assumption))))⟩

/-- what IndexFunc tells of a list -/
def IdxI {α : Type} (keep : α → Bool) (l : List α) (i : Int) : Prop := (i = -1 ∧ l.filter keep = l) ∨ ∃ (k : Nat) (x : α), i = k ∧ l[k]? = some x ∧ keep x = false ∧ ∀ y ∈ l.take k, keep y = true

set_option maxRecDepth 100000 in
set_option maxHeartbeats 4000000 in
theorem indexSym_any (s : Int) (A : Option Addr) (n c : Nat) (xs : List Col) (b : Nat) (G : Option Addr) (m cc : Nat) (l : List (Int × Bool)) (w : World) (hn : n ≤ maxLen) (hm : m ≤ 8)
    (h0 : w.cell? ⟨b, 0, none⟩ = some (.int .i64 s)) (h1 : w.cell? ⟨b, 1, none⟩ = some (.slice A n c)) (ha : Rd colC 3 w w.heap.size A n xs) (hl : Rd symC 2 w w.heap.size G m l) :
    Calls Try.prog 60 #[.slice G m cc, .func (.func 41) #[] #[.pointer (some ⟨b, 0, none⟩)]] w fun e w' => (∃ i : Int, e = .returned (.int .i64 i) ∧ IdxI (keepB s xs) l i) ∧ Below w.heap.size w w' := by
  go_enter Try.func60, Try.ntmps60
  go_wp2
  go_loopw [5, 8] (fun _ i wr => ∃ k : Nat, k ≤ m ∧ i = .int .i64 k ∧ (∀ y ∈ l.take k, keepB s xs y = true) ∧ Below w.heap.size w wr) (fun _ i _ => m - (intOf i).toNat)
  case atStart => exact ⟨0, Nat.zero_le _, rfl, by simp, Below.refl _ _⟩
  case round =>
    obtain ⟨k, hk, rfl, hall, hw⟩ := hrel
    have HALL := Lib.hid hall
    clear hall
    by_cases hlt : k < m
    · obtain ⟨bb, off, t, f, rfl, hbl, hx, c0, c1⟩ := (hl.below hw).sym hlt
      have hki : (k : Int) < (m : Int) := by omega
      have hk0 : (0 : Int) ≤ (k : Int) := by omega
      have HX := Lib.hid hx
      clear hx
      have d0 := keepC h0 hw
      have d1 := keepC h1 hw
      have ra := ha.step hw
      cases hq : keepB s xs (t, f)
      · go_wp2_with (go_at_call 41; refine (keepF_any t f s A n c xs b _ hn (by assumption) (by assumption) (ra.step ?_)).mono ?_; (repeat (first | with_reducible assumption | exact Below.refl _ _ | (refine Below.setCell ?_ (by first | exact Nat.le_refl _ | (simp; done) | omega | (simp; omega)) _) | (refine below_drewN ?_ _) | (refine Below.drew ?_) | (refine Below.alloc ?_ (by first | exact Nat.le_refl _ | (simp; done) | omega | (simp; omega)) _) | (refine then_ ?_ (by with_reducible assumption)) | assumption | (refine then_ ?_ (by assumption)))); rintro e w1 ⟨rfl, hb1⟩; simp only [hq])
        go_ret
        exact ⟨⟨_, rfl, .inr ⟨k, (t, f), rfl, HX.out, hq, HALL.out⟩⟩, by (repeat (first | with_reducible assumption | exact Below.refl _ _ | (refine Below.setCell ?_ (by first | exact Nat.le_refl _ | (simp; done) | omega | (simp; omega)) _) | (refine below_drewN ?_ _) | (refine Below.drew ?_) | (refine Below.alloc ?_ (by first | exact Nat.le_refl _ | (simp; done) | omega | (simp; omega)) _) | (refine then_ ?_ (by with_reducible assumption)) | assumption | (refine then_ ?_ (by assumption))))⟩
      · go_wp2_with (go_at_call 41; refine (keepF_any t f s A n c xs b _ hn (by assumption) (by assumption) (ra.step ?_)).mono ?_; (repeat (first | with_reducible assumption | exact Below.refl _ _ | (refine Below.setCell ?_ (by first | exact Nat.le_refl _ | (simp; done) | omega | (simp; omega)) _) | (refine below_drewN ?_ _) | (refine Below.drew ?_) | (refine Below.alloc ?_ (by first | exact Nat.le_refl _ | (simp; done) | omega | (simp; omega)) _) | (refine then_ ?_ (by with_reducible assumption)) | assumption | (refine then_ ?_ (by assumption)))); rintro e w1 ⟨rfl, hb1⟩; simp only [hq])
        go_roundw
        case rel =>
          refine ⟨k + 1, by omega, by go_num, fun y hy => ?_, by (repeat (first | with_reducible assumption | exact Below.refl _ _ | (refine Below.setCell ?_ (by first | exact Nat.le_refl _ | (simp; done) | omega | (simp; omega)) _) | (refine below_drewN ?_ _) | (refine Below.drew ?_) | (refine Below.alloc ?_ (by first | exact Nat.le_refl _ | (simp; done) | omega | (simp; omega)) _) | (refine then_ ?_ (by with_reducible assumption)) | assumption | (refine then_ ?_ (by assumption))))⟩
          rw [List.take_add_one, HX.out] at hy
          rcases List.mem_append.1 hy with h | h
          · exact HALL.out y h
          · simp at h; subst h; exact hq
        case measure => simp [intOf]; omega
    · obtain rfl : k = m := by omega
      have hs : l.filter (keepB s xs) = l := by
        have := HALL.out
        rw [← hl.1, List.take_length] at this
        exact List.filter_eq_self.2 this
      go_wp2
      go_ret
      exact ⟨⟨-1, rfl, .inl ⟨rfl, hs⟩⟩, hw⟩

theorem zeroSym (w : World) : (zeroValue 31).run Try.prog w = .ok (.agg #[.int .i64 0, .bool false]) w := by kernel_rfl

set_option maxRecDepth 100000 in
set_option maxHeartbeats 8000000 in
theorem deleteSym_any (s : Int) (A : Option Addr) (n c : Nat) (xs : List Col) (b B : Nat) (G : Option Addr) (m cc : Nat) (l : List (Int × Bool)) (w : World) (hn : n ≤ maxLen) (hm : m ≤ 8) (hbB : b < B) (hB : B ≤ w.heap.size) (hml : l.length = m)
    (h0 : w.cell? ⟨b, 0, none⟩ = some (.int .i64 s)) (h1 : w.cell? ⟨b, 1, none⟩ = some (.slice A n c)) (ha : Rd colC 3 w B A n xs) (ho : w.ownsRow B 31 2 (.slice G m cc) m (flat symC l)) :
    Calls Try.prog 40 #[.slice G m cc, .func (.func 41) #[] #[.pointer (some ⟨b, 0, none⟩)]] w fun e w' => ∃ A' c', e = .returned (.slice A' (l.filter (keepB s xs)).length c') ∧ w'.ownsRow B 31 2 (.slice A' (l.filter (keepB s xs)).length c') (l.filter (keepB s xs)).length (flat symC (l.filter (keepB s xs))) ∧ Below B w w' := by
  have hl := Rd.of_own symC_len hml ho
  have OW := Lib.hid ho
  have ML := Lib.hid hml
  clear ho hml
  go_enter Try.func40, Try.ntmps40
  go_wp2_with fail
  refine (indexSym_any s A n c xs b G m cc l _ hn hm h0 h1 (ha.more hB) hl).mono ?_
  rintro e w1 ⟨⟨i0, rfl, hi0⟩, hb1⟩
  clear hl
  rcases hi0 with ⟨rfl, hall⟩ | ⟨i, x, rfl, hx, hq, hall⟩
  · go_wp2
    go_ret
    exact ⟨G, cc, by rw [hall, ML.out]; rfl, by rw [hall, ML.out]; exact owns_below OW.out hb1, hb1.mono hB⟩
  · have hlt : i < m := by have := (List.getElem?_eq_some_iff.1 hx).1; have := ML.out; omega
    have K0 := Lib.hid (KeptI.start hx hq hall)
    obtain ⟨g, rfl, hmc, hcm⟩ := owns_slice_at OW.out (by omega)
    have OW1 := Lib.hid (owns_below OW.out hb1)
    clear hx hq hall
    have hi1 : ((i : Int) == -1) = false := by simp
    have hB1 : Below B w w1 := hb1.mono hB
    clear hb1
    go_wp2
    go_loopw [5, 6] (fun s5 s6 wr => ∃ (i j : Nat) (zs : List (Int × Bool)), s5 = .int .i64 i ∧ s6 = .int .i64 j ∧ KeptI (keepB s xs) l zs i j ∧ wr.ownsRow B 31 2 (.slice (some ⟨g, 0, none⟩) m cc) m (flat symC zs) ∧ Below B w wr) (fun _ j _ => m - (intOf j).toNat)
    case atStart => exact ⟨i, i + 1, l, rfl, by go_num, K0.out, OW1.out, hB1⟩
    case round =>
      clear hB1 K0 hlt hi1
      obtain ⟨i, j, zs, rfl, rfl, hk, hown, hw⟩ := hrel
      have OWr := Lib.hid hown
      have KI := Lib.hid hk
      obtain ⟨k1, k2, k3, k4, k5⟩ := hk
      have hj : j ≤ m := by have := ML.out; omega
      have hzl : zs.length = m := by have := ML.out; omega
      have gl := (hown.lt g rfl).1
      have gl2 := (hown.lt g rfl).2
      have zw := hw.size
      have hij0 : (0 : Int) ≤ (i : Int) := by omega
      have hj0 : (0 : Int) ≤ (j : Int) := by omega
      by_cases hlt : j < m
      · have hjz : j < zs.length := by omega
        obtain ⟨x, hx⟩ : ∃ x, zs[j]? = some x := ⟨_, List.getElem?_eq_getElem hjz⟩
        have HX := Lib.hid (show l[j]? = some x by rw [← k5 j (Nat.le_refl _)]; exact hx)
        obtain ⟨t, f⟩ := x
        have c0 : wr.cell? ⟨g, j * 2, none⟩ = some (.int .i64 t) := by
          rw [hown.cellAt (j * 2) (by omega)]
          exact flat_get symC_len zs j _ hx 0 _ rfl
        have c1 : wr.cell? ⟨g, j * 2 + 1, none⟩ = some (.bool f) := by
          rw [hown.cellAt (j * 2 + 1) (by omega)]
          exact flat_get symC_len zs j _ hx 1 _ rfl
        have hji : (j : Int) < (m : Int) := by omega
        have him : (i : Int) < (m : Int) := by omega
        have d0 : wr.cell? ⟨b, 0, none⟩ = some (.int .i64 s) := (hw.cell (p := ⟨b, 0, none⟩) hbB).trans h0
        have d1 : wr.cell? ⟨b, 1, none⟩ = some (.slice A n c) := (hw.cell (p := ⟨b, 1, none⟩) hbB).trans h1
        have ra : Rd colC 3 wr wr.heap.size A n xs := (ha.below hw).more (by omega)
        obtain ⟨v0, hv0⟩ := owns_cell hown (i * 2) (by omega)
        obtain ⟨v1, hv1⟩ := owns_cell hown (i * 2 + 1) (by omega)
        clear hx k1 k2 k4 k5 hown
        go_wp2_with fail
        obtain ⟨W, hWe⟩ : ∃ W, W = wr.alloc (Obj.cells #[.int .i64 t, .bool f] 31) := ⟨_, rfl⟩
        have hW : Below wr.heap.size wr W := by rw [hWe]; (repeat (first | with_reducible assumption | exact Below.refl _ _ | (refine Below.setCell ?_ (by first | exact Nat.le_refl _ | (simp; done) | omega | (simp; omega)) _) | (refine below_drewN ?_ _) | (refine Below.drew ?_) | (refine Below.alloc ?_ (by first | exact Nat.le_refl _ | (simp; done) | omega | (simp; omega)) _) | (refine then_ ?_ (by with_reducible assumption)) | assumption | (refine then_ ?_ (by assumption))))
        have zW : wr.heap.size < W.heap.size := by rw [hWe]; simp
        have q0 : W.cell? ⟨wr.heap.size, 0, none⟩ = some (.int .i64 t) := by rw [hWe]; simp [go_sem]
        have q1 : W.cell? ⟨wr.heap.size, 1, none⟩ = some (.bool f) := by rw [hWe]; simp [go_sem]
        rw [← hWe]
        have e0 := keepC d0 hW
        have e1 := keepC d1 hW
        have OWW := Lib.hid (owns_below OWr.out hW)
        have ra' := ra.step hW
        clear hWe d0 d1 c0 c1 ra OWr
        refine (keepF_any t f s A n c xs b W hn e0 e1 ra').mono ?_
        rintro e w5 ⟨rfl, hb5⟩
        have q0 := keepC q0 hb5
        have q1 := keepC q1 hb5
        have OW5 := Lib.hid (owns_below OWW.out hb5)
        have z5 := hb5.size
        have hB5 : Below B w w5 := (hw.trans (hW.mono (by omega))).trans (hb5.mono (by omega))
        obtain ⟨v0, hv0⟩ := owns_cell OW5.out (i * 2) (by omega)
        obtain ⟨v1, hv1⟩ := owns_cell OW5.out (i * 2 + 1) (by omega)
        have hf0 := OW5.out.frozenAt (i * 2)
        have hf1 := OW5.out.frozenAt (i * 2 + 1)
        have n1 : ¬ wr.heap.size = g := by omega
        clear e0 e1 ra' OWW hb5 hW hw
        cases hq : keepB s xs (t, f)
        · go_wp2
          go_roundw
          case rel => exact ⟨i, j + 1, zs, rfl, by go_num, KI.out.drop HX.out hq, OW5.out, hB5⟩
          case measure => simp [intOf]; omega
        · go_wp2
          go_roundw
          case rel =>
            refine ⟨i + 1, j + 1, zs.set i (t, f), by go_num, by go_num, KI.out.keep HX.out hq, ?_, ?_⟩
            · rw [flat_set2 (by omega)]
              exact ((OW5.out.stored (i * 2) _).1.stored (i * 2 + 1) _).1
            · exact (hB5.setCell gl _).setCell gl _
          case measure => simp [intOf]; omega
      · obtain rfl : j = m := by omega
        have hd := KI.out.done ML.out.symm
        have him : i < j := by omega
        have him' : ¬ (j : Int) < (j : Int) := by omega
        have hii : (i : Int) ≤ (j : Int) := by omega
        have hcl := fun ty => run_clear_row (P := Try.prog) wr 46 31 ty (.agg #[.int .i64 0, .bool false]) Try.underlying46 zeroSym g (i * 2) (j - i) (cc - i) (by omega) (zeroCells_sym _)
          (fun k hk => by
            have hk : k < (j - i) * 2 := hk
            obtain ⟨v, hv⟩ := owns_cell hown (i * 2 + k) (by omega)
            rw [hv]; rfl) (fun k _ => hown.frozenAt _)
        clear hown k4 k5 KI
        go_wp2
        go_ret
        refine ⟨some ⟨g, 0, none⟩, cc, rfl, ?_, below_setCells gl _ _ _ hw⟩
        have o := own_beyonds (Builtin.zeroCells #[.int .i64 0, .bool false] (j - i)).toList (i * 2) _ (own_take OWr.out (Nat.le_of_lt him)) (Nat.le_refl _)
        rw [flat_take symC_len, hd.1] at o
        exact o

set_option maxRecDepth 100000 in
set_option maxHeartbeats 8000000 in
theorem symsOfPicture_any (s : Int) (A : Option Addr) (n c : Nat) (xs : List Col) (w : World) (hn : n ≤ maxLen) (ha : Rd colC 3 w w.heap.size A n xs) :
    Calls Try.prog 15 #[.agg #[.int .i64 s, .slice A n c]] w fun e w' => ∃ B d, e = .returned (.slice B (symsP s xs).length d) ∧ w'.ownsRow w.heap.size 31 2 (.slice B (symsP s xs).length d) (symsP s xs).length (flat symC (symsP s xs)) ∧ Below w.heap.size w w' := by
  cases h2 : pictB s xs
  · have R := Lib.hid (show symsP s xs = [] by simp [symsP, h2])
    go_enter Try.func15, Try.ntmps15
    go_wp2_with (go_at_call 12; refine (isPicture_any s A n c xs _ hn (ha.step ?_)).mono ?_; (repeat (first | with_reducible assumption | exact Below.refl _ _ | (refine Below.setCell ?_ (by first | exact Nat.le_refl _ | (simp; done) | omega | (simp; omega)) _) | (refine below_drewN ?_ _) | (refine Below.drew ?_) | (refine Below.alloc ?_ (by first | exact Nat.le_refl _ | (simp; done) | omega | (simp; omega)) _) | (refine then_ ?_ (by with_reducible assumption)) | assumption | (refine then_ ?_ (by assumption)))); rintro e w2 ⟨rfl, hb2⟩; simp only [h2])
    go_ret
    rw [R.out]
    exact ⟨none, 0, rfl, ⟨rfl, .inl ⟨rfl, rfl⟩⟩, by (repeat (first | with_reducible assumption | exact Below.refl _ _ | (refine Below.setCell ?_ (by first | exact Nat.le_refl _ | (simp; done) | omega | (simp; omega)) _) | (refine below_drewN ?_ _) | (refine Below.drew ?_) | (refine Below.alloc ?_ (by first | exact Nat.le_refl _ | (simp; done) | omega | (simp; omega)) _) | (refine then_ ?_ (by with_reducible assumption)) | assumption | (refine then_ ?_ (by assumption))))⟩
  · have R := Lib.hid (show symsP s xs = (symsL 3).filter (keepB s xs) by simp [symsP, h2])
    have L8 : (symsL 3).length = 8 := by decide
    go_enter Try.func15, Try.ntmps15
    go_wp2_with (go_at_call 12; refine (isPicture_any s A n c xs _ hn (ha.step ?_)).mono ?_; (repeat (first | with_reducible assumption | exact Below.refl _ _ | (refine Below.setCell ?_ (by first | exact Nat.le_refl _ | (simp; done) | omega | (simp; omega)) _) | (refine below_drewN ?_ _) | (refine Below.drew ?_) | (refine Below.alloc ?_ (by first | exact Nat.le_refl _ | (simp; done) | omega | (simp; omega)) _) | (refine then_ ?_ (by with_reducible assumption)) | assumption | (refine then_ ?_ (by assumption)))); rintro e w2 ⟨rfl, hb2⟩; simp only [h2]; have kc_0 := keepC (p := ⟨w.heap.size, 0, none⟩) (v := .int .i64 s) (by first | assumption | (simp [go_sem]; done) | (simp [go_sem, *]; done)) hb2; have kc_1 := keepC (p := ⟨w.heap.size, 1, none⟩) (v := .slice A n c) (by first | assumption | (simp [go_sem]; done) | (simp [go_sem, *]; done)) hb2; have lb_ := (show w.heap.size < _ from World.block_lt_of_cell? _ _ kc_0); have hW2 : Below w.heap.size w w2 := (by (repeat (first | with_reducible assumption | exact Below.refl _ _ | (refine Below.setCell ?_ (by first | exact Nat.le_refl _ | (simp; done) | omega | (simp; omega)) _) | (refine below_drewN ?_ _) | (refine Below.drew ?_) | (refine Below.alloc ?_ (by first | exact Nat.le_refl _ | (simp; done) | omega | (simp; omega)) _) | (refine then_ ?_ (by with_reducible assumption)) | assumption | (refine then_ ?_ (by assumption))))); have ra2 := ha.step hW2; clear hb2)
    refine (symsOf_any 3 _).mono ?_
    rintro e w3 ⟨G, cc, rfl, ho3, hb3⟩
    have kc_0 := keepC (p := ⟨w.heap.size, 0, none⟩) (v := .int .i64 s) (by first | assumption | (simp [go_sem]; done) | (simp [go_sem, *]; done)) hb3; have kc_1 := keepC (p := ⟨w.heap.size, 1, none⟩) (v := .slice A n c) (by first | assumption | (simp [go_sem]; done) | (simp [go_sem, *]; done)) hb3; have lb_ := (show w.heap.size < _ from World.block_lt_of_cell? _ _ kc_0)
    have ra3 := ra2.below hb3
    have O3 := Lib.hid ho3
    clear ho3
    rw [L8] at O3
    rw [L8]
    go_wp2_with fail
    refine (deleteSym_any s A n c xs w.heap.size w2.heap.size G 8 cc (symsL 3) _ hn (by omega) (by omega) hb3.size L8 (by assumption) (by assumption) ra3 O3.out).mono ?_
    rintro e w4 ⟨B, d, rfl, ho4, hb4⟩
    have z2 := hW2.size
    have O4 := Lib.hid ho4
    clear ho4
    go_wp2
    go_ret
    rw [R.out]
    exact ⟨B, d, rfl, owns_mono O4.out z2, (hW2.trans (hb3.mono z2)).trans (hb4.mono z2)⟩
end Go.Proofs.Ytchkcleenmoajaa
