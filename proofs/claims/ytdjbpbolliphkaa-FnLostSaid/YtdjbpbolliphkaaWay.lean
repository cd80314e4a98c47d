
/- StraightWay: the program's. -/
import Derived.Test.YtdjbpbolliphkaaTumT
import Derived.Maps.AppendAt
namespace Go.Proofs.Ytdjbpbolliphkaa
open Go.RowKit
attribute [local go_sem] run_store_float run_store_complex

def zN (z v : Pt) : Nat → Pt
  | 0 => z
  | k + 1 => plusP (zN z v k) v
def wayL (z v : Pt) (n : Nat) : List Pt := (List.range (n + 1)).map (zN z v)
def wayB (z v : Pt) (n : Nat) : Bool := (List.range n).all (fun i => pointB (zN z v (i + 1)).1 (zN z v (i + 1)).2)
theorem wayL_succ (z v : Pt) (k : Nat) : wayL z v (k + 1) = wayL z v k ++ [zN z v (k + 1)] := by
  unfold wayL
  rw [List.range_succ, List.map_append]
  rfl
theorem wayL_len (z v : Pt) (k : Nat) : (wayL z v k).length = k + 1 := by simp [wayL]
theorem wayB_no {z v : Pt} {k n : Nat} (hk : k < n) (h : pointB (zN z v (k + 1)).1 (zN z v (k + 1)).2 = false) : wayB z v n = false := by
  unfold wayB
  rw [List.all_eq_false]
  exact ⟨k, by simpa using hk, by simp [h]⟩
theorem wayB_yes {z v : Pt} {n : Nat} (h : ∀ j, j < n → pointB (zN z v (j + 1)).1 (zN z v (j + 1)).2 = true) : wayB z v n = true := by
  unfold wayB
  rw [List.all_eq_true]
  intro j hj
  exact h j (by simpa using hj)
theorem infoCxW : (Try.prog.info? 24).map (fun i => (i.zero, i.size, i.bytes)) = some (some (.complex .f32 0 0), 1, 8) := by kernel_rfl
def WayPost (z v : Pt) (n base : Nat) (e : Ending) (w' : World) : Prop :=
  (wayB z v n = true → ∃ B d, e = .returned (.tuple #[.slice B (n + 1) d, .bool true]) ∧ w'.ownsRow base 24 1 (.slice B (n + 1) d) (n + 1) (flat cxC (wayL z v n))) ∧
  (wayB z v n = false → e = .returned (.tuple #[.slice none 0 0, .bool false]))

set_option maxRecDepth 100000 in
set_option maxHeartbeats 4000000 in
theorem straightWay_any (z v : Pt) (n : Nat) (w : World) (hz : pointB z.1 z.2 = true) (hv : pointB v.1 v.2 = true) (hn : n ≤ 64) :
    Calls Try.prog 12 #[.complex .f32 z.1 z.2, .complex .f32 v.1 v.2, .int .i64 n] w fun e w' => WayPost z v n w.heap.size e w' ∧ Below w.heap.size w w' := by
  have hin : inB (n : Int) 0 64 = true := by unfold inB; simp; omega
  obtain ⟨i0, hi, hz0, hz1, hz2⟩ := info_parts infoCxW
  go_enter Try.func12, Try.ntmps12
  go_wp2_with (first
    | (go_at_call 28; (with_reducible refine (isPoint_any z.1 z.2 _).mono ?_); rintro e w' ⟨rfl, rfl⟩; simp only [hz])
    | (go_at_call 28; (with_reducible refine (isPoint_any v.1 v.2 _).mono ?_); rintro e w' ⟨rfl, rfl⟩; simp only [hv])
    | (go_at_call 34; refine (within_any _ _ _ _).mono ?_; rintro e w' ⟨rfl, rfl⟩; simp only [hin]))
  go_loopw [0, 8, 25] (fun z0 s i wr => ∃ (k : Nat) (B : Option Addr) (d : Nat) (Q : Pt), Q = zN z v k ∧ k ≤ n ∧ z0 = .complex .f32 Q.1 Q.2 ∧ s = .slice B (k + 1) d ∧ i = .int .i64 (k : Nat) ∧ (∀ j, j < k → pointB (zN z v (j + 1)).1 (zN z v (j + 1)).2 = true) ∧ wr.ownsRow w.heap.size 24 1 (.slice B (k + 1) d) (k + 1) (flat cxC (wayL z v k)) ∧ Below w.heap.size w wr) (fun _ _ i _ => n - (intOf i).toNat)
  case atStart =>
    refine ⟨0, _, _, z, rfl, Nat.zero_le _, rfl, rfl, rfl, fun j h => by omega, ?_, by (repeat (first | with_reducible assumption | exact Below.refl _ _ | (refine Below.setCell ?_ (by first | exact Nat.le_refl _ | (simp; done) | omega | (simp; omega)) _) | (refine below_drewN ?_ _) | (refine Below.drew ?_) | (refine Below.alloc ?_ (by first | exact Nat.le_refl _ | (simp; done) | omega | (simp; omega)) _) | (refine then_ ?_ (by with_reducible assumption)) | assumption | (refine then_ ?_ (by assumption))))⟩
    exact World.ownsRow_lit w #[.complex .f32 z.1 z.2] 1 (Nat.le_refl _) (by unfold maxLen; omega) rfl
  case round =>
    obtain ⟨k, B, d, Q, hQ, hk, rfl, rfl, rfl, hall, hown, hw⟩ := hrel
    have HQ := Lib.hid hQ
    clear hQ
    have HALL := Lib.hid hall
    have OW := Lib.hid hown
    clear hall hown
    by_cases hlt : k < n
    · have hki : (k : Int) < (n : Int) := by omega
      obtain ⟨P, hP⟩ : ∃ P, P = zN z v (k + 1) := ⟨_, rfl⟩
      have kp := fun w => plus_any Q v w
      have e1 : plusP Q v = zN z v (k + 1) := by rw [HQ.out]; rfl
      rw [e1, ← hP] at kp
      have KP := Lib.hid kp
      have HP := Lib.hid hP
      clear kp e1 hP
      cases hp : pointB P.1 P.2
      · have R := Lib.hid (wayB_no hlt (by rw [← HP.out]; exact hp))
        go_wp2_with (first
          | (go_at_call 35; (with_reducible refine (KP.out _).mono ?_); rintro e w' ⟨rfl, n1, rfl⟩)
          | (go_at_call 28; (with_reducible refine (isPoint_any P.1 P.2 _).mono ?_); rintro e w' ⟨rfl, rfl⟩; simp only [hp]))
        go_ret2
        exact ⟨⟨fun h => (by rw [R.out] at h; cases h), fun _ => rfl⟩, by (repeat (first | with_reducible assumption | exact Below.refl _ _ | (refine Below.setCell ?_ (by first | exact Nat.le_refl _ | (simp; done) | omega | (simp; omega)) _) | (refine below_drewN ?_ _) | (refine Below.drew ?_) | (refine Below.alloc ?_ (by first | exact Nat.le_refl _ | (simp; done) | omega | (simp; omega)) _) | (refine then_ ?_ (by with_reducible assumption)) | assumption | (refine then_ ?_ (by assumption))))⟩
      · go_wp2_with fail
        (with_reducible refine (KP.out _).mono ?_)
        rintro e w' ⟨rfl, n1, rfl⟩
        obtain ⟨W, hWe⟩ : ∃ W, W = wr.drewN n1 := ⟨_, rfl⟩
        have hW : Below wr.heap.size wr W := by rw [hWe]; exact below_drewN (Below.refl _ _) _
        rw [← hWe]
        have OW2 := Lib.hid (owns_below OW.out hW)
        have hw2 := then_ hw hW
        clear hWe
        go_wp2_with fail
        (with_reducible refine (isPoint_any P.1 P.2 _).mono ?_)
        rintro e w' ⟨rfl, rfl⟩
        simp only [hp]
        go_wp2_with (at_builtin; refine wpList_append_own_at _ rfl _ _ 38 rfl w.heap.size 24 i0 (.complex .f32 0 0) 1 8 Try.underlying38 hi hz0 hz1 hz2 rfl (by decide) _ _ _ rfl (OW2.out.alloc _) ⟨W.heap.size, 0, none⟩ 1 1 [.complex .f32 P.1 P.2] rfl rfl ?c13 ?c23 ?c33 ?c43 ?c53 ?_; (case c13 => exact World.news_of_block (cs := #[.complex .f32 P.1 P.2]) (t := 24) (fr := (0, 0)) (heap_alloc_new W _)); (case c23 => simp [Value.oneCell']); (case c33 => unfold maxLen; omega); (case c43 => omega); (case c53 => (have := Below.size hw2; simp only [World.size_alloc]; omega)); intro v3 w3 hown3 hg3 hne3 hat3; simp only [World.size_alloc] at hat3; have GB3 := Lib.hid hg3; have OW3 := Lib.hid hown3; have BW3 := below_append hw2 OW2.out hg3; have NB3 := Lib.hid hat3; clear hown3 hg3 hne3 hat3)
        go_roundw
        case rel =>
          obtain ⟨A3, c3, rfl⟩ := owns_slice OW3.out
          refine ⟨k + 1, A3, c3, P, HP.out, by omega, rfl, rfl, by go_num, fun j hj => ?_, ?_, BW3⟩
          · by_cases e : j = k
            · subst e; rw [← HP.out]; exact hp
            · exact HALL.out j (by omega)
          · rw [wayL_succ, flat_append, ← HP.out]
            exact OW3.out
        case measure => simp [intOf]; omega
    · obtain rfl : k = n := by omega
      have R := Lib.hid (wayB_yes (z := z) (v := v) HALL.out)
      go_wp2
      go_ret2
      exact ⟨⟨fun _ => ⟨B, d, rfl, OW.out⟩, fun h => by rw [R.out] at h; cases h⟩, by (repeat (first | with_reducible assumption | exact Below.refl _ _ | (refine Below.setCell ?_ (by first | exact Nat.le_refl _ | (simp; done) | omega | (simp; omega)) _) | (refine below_drewN ?_ _) | (refine Below.drew ?_) | (refine Below.alloc ?_ (by first | exact Nat.le_refl _ | (simp; done) | omega | (simp; omega)) _) | (refine then_ ?_ (by with_reducible assumption)) | assumption | (refine then_ ?_ (by assumption))))⟩
end Go.Proofs.Ytdjbpbolliphkaa
