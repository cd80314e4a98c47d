
/- FnBounces: bounces are counted in parts as at once; a bead without mirrors has none. -/
import Derived.Test.YtdjbpbolliphkaaSpN
import Derived.Test.YtdjbpbolliphkaaDrawTum2
import Derived.Test.YtdjbpbolliphkaaOpen
import Derived.ProofKit
import Derived.ChangeOld
import Derived.Deep.RegionHeld3
import Derived.Deep.QuietTactic
import Derived.BigQuiet
import Derived.Below
import Derived.Laws.Cover3
namespace Go.Proofs.Ytdjbpbolliphkaa
open Go.ChangeShapes Go.WideShapes Go.ChangeAt Go.RowKit
attribute [local go_sem] run_store_float run_store_complex

def cntB (mir : Int) (gr : Pt) (loss : Nat) (bs : List Bd) (k : Nat) : List Int := match runUp mir gr loss bs k with
  | some (_, c) => c
  | none => []
theorem cnt_split {mir : Int} {gr : Pt} {loss : Nat} {bs : List Bd} {k n : Nat} (hk : k ≤ n) (hs : runS mir gr loss bs n = true) :
    runS mir gr loss bs k = true ∧ runS mir gr loss (runB mir gr loss bs k) (n - k) = true ∧ cntB mir gr loss bs n = List.zipWith (· + ·) (cntB mir gr loss bs k) (cntB mir gr loss (runB mir gr loss bs k) (n - k)) := by
  obtain ⟨j, rfl⟩ : ∃ j, n = k + j := ⟨n - k, by omega⟩
  have ej : k + j - k = j := by omega
  rw [ej]
  unfold runS runB cntB at *
  cases h : runUp mir gr loss bs k with
  | none => rw [runUp_none h j] at hs; cases hs
  | some r =>
    obtain ⟨b, c⟩ := r
    rw [runUp_add h j] at hs ⊢
    dsimp only at hs ⊢
    cases hj : runUp mir gr loss b j with
    | none => rw [hj] at hs; cases hs
    | some r => exact ⟨rfl, rfl, rfl⟩
theorem cnt_bd {mir : Int} {gr : Pt} {loss : Nat} {bs : List Bd} {n i : Nat} {x : Int} (h : (cntB mir gr loss bs n)[i]? = some x) : 0 ≤ x ∧ x ≤ (n : Int) := by
  unfold cntB at h
  cases hr : runUp mir gr loss bs n with
  | none => rw [hr] at h; simp at h
  | some r => rw [hr] at h; exact runUp_bd hr i x h
theorem cnt_none {gr : Pt} {loss : Nat} {bs : List Bd} : ∀ {k : Nat} {b : List Bd} {c : List Int}, runUp 0 gr loss bs k = some (b, c) → ∀ (i : Nat) x, c[i]? = some x → x = 0
  | 0, b, c, h, i, x, hx => by
    unfold runUp at h
    injection h with h
    injection h with h1 h2
    subst h1 h2
    rw [List.getElem?_replicate] at hx
    split at hx
    · injection hx with hx; exact hx.symm
    · cases hx
  | k + 1, b, c, h, i, x, hx => by
    cases hk : runUp 0 gr loss bs k with
    | none => rw [runUp_none hk 1] at h; cases h
    | some r =>
      obtain ⟨b', c'⟩ := r
      cases hg : allGo gr b'
      · rw [runUp_no hk hg] at h; cases h
      · rw [runUp_yes hk hg] at h
        injection h with h
        injection h with h1 h2
        subst h1 h2
        rw [List.getElem?_zipWith] at hx
        cases h3 : c'[i]? with
        | none => rw [h3] at hx; cases hx
        | some y =>
          cases h4 : (goF 0 gr loss b')[i]? with
          | none => rw [h3, h4] at hx; cases hx
          | some f =>
            rw [h3, h4] at hx
            have hf : f = false := by
              unfold goF at h4
              rw [List.getElem?_map] at h4
              obtain ⟨z, _, rfl⟩ := Option.map_eq_some_iff.1 h4
              exact goBd_none
            subst hf
            injection hx with hx
            have hy : y = 0 := cnt_none hk i y h3
            subst hy
            rw [← hx]; rfl
theorem cnt_zero {mir : Int} {gr : Pt} {loss : Nat} {bs : List Bd} {n i : Nat} {x : Int} (h : (cntB mir gr loss bs n)[i]? = some x) (hm : mir = 0) : x = 0 := by
  subst hm
  unfold cntB at h
  cases hr : runUp 0 gr loss bs n with
  | none => rw [hr] at h; simp at h
  | some r => rw [hr] at h; exact cnt_none hr i x h
/-- BouncesOf of a valid tumble -/
def BncPost (n : Nat) (ok : Bool) (cs : List Int) (e : Ending) (w' : World) : Prop :=
  (ok = true → ∃ F m, e = .returned (.tuple #[.slice F n m, .bool true]) ∧ Rd intC 1 w' w'.heap.size F n cs) ∧ (ok = false → e = .returned (.tuple #[.slice none 0 0, .bool false]))
theorem bounceT_any (mir : Int) (gr : Pt) (loss : Nat) (n : Nat) (A : Option Addr) (c : Nat) (bs : List Bd) (N : Nat) (w : World) (hn : n = bs.length) (ht : tumB mir gr loss bs = true) (hN : N ≤ 64) (ha : Rd bdC 2 w w.heap.size A n bs) :
    Calls Try.prog 22 #[.agg #[.int .i64 mir, .complex .f32 gr.1 gr.2, .float .f32 loss, .slice A n c], .int .i64 N] w fun e w' => BncPost n (runS mir gr loss bs N) (cntB mir gr loss bs N) e w' ∧ Below w.heap.size w w' := by
  subst hn
  refine (bouncesOf_any mir gr loss A bs.length c bs N w (tumB_parts.1 ht).2.2.2.1 ha).mono ?_
  rintro e w' ⟨⟨hy, hno⟩, hb⟩
  refine ⟨?_, hb⟩
  rw [runOk_up ht hN] at hno
  cases hr : runUp mir gr loss bs N with
  | none =>
    have e1 : runS mir gr loss bs N = false := by unfold runS; rw [hr]; rfl
    rw [e1]
    exact ⟨fun h => (by cases h), fun _ => hno hr⟩
  | some r =>
    obtain ⟨b, cc⟩ := r
    have e1 : runS mir gr loss bs N = true := by unfold runS; rw [hr]; rfl
    have e2 : cntB mir gr loss bs N = cc := by unfold cntB; rw [hr]
    rw [e1, e2]
    refine ⟨fun _ => ?_, fun h => by cases h⟩
    obtain ⟨F, m, rfl, ho⟩ := hy b cc (by rw [runOk_up ht hN]; exact hr)
    exact ⟨F, m, rfl, Rd.of_own intC_len (runUp_len hr).2 ho⟩
theorem Rd.intB {w : World} {B : Nat} {A : Option Addr} {n k : Nat} {xs : List Int} (h : Rd intC 1 w B A n xs) (hk : k < n) :
    ∃ b off x, A = some ⟨b, off, none⟩ ∧ b < B ∧ xs[k]? = some x ∧ w.cell? ⟨b, off + k, none⟩ = some (.int .i64 x) := by
  obtain ⟨b, off, x, e, hb, hx, hc⟩ := h.at_ hk
  have := hc 0 _ rfl
  rw [Nat.mul_one, Nat.add_zero] at this
  exact ⟨b, off, x, e, hb, hx, this⟩

set_option maxRecDepth 100000 in
set_option maxHeartbeats 8000000 in
theorem lawBounces (A : Option Addr) (m c : Nat) (bs : List Int) (w : World) (hr : Rd byteC 1 w w.heap.size A m bs) (hb : ∀ x ∈ bs, 0 ≤ x ∧ x ≤ 255) :
    Calls Try.prog 7 #[.slice A m c] w fun e w' => e = .returned (.bool true) ∧ Below w.heap.size w w' := by
  by_cases hbig : (4096 : Int) < m
  · have hd : decide ((4096 : Int) < m) = true := by simp [hbig]
    go_enter Try.func7, Try.ntmps7
    go_wp2_with (go_at_call 8; refine (bigT_any _ _ _ _).mono ?_; rintro e w' ⟨rfl, rfl⟩; simp only [hd])
    go_ret
    exact ⟨rfl, by (repeat (first | with_reducible assumption | exact Below.refl _ _ | (refine Below.setCell ?_ (by first | exact Nat.le_refl _ | (simp; done) | omega | (simp; omega)) _) | (refine below_drewN ?_ _) | (refine Below.drew ?_) | (refine Below.alloc ?_ (by first | exact Nat.le_refl _ | (simp; done) | omega | (simp; omega)) _) | (refine then_ ?_ (by with_reducible assumption)) | assumption | (refine then_ ?_ (by assumption))))⟩
  · have hd : decide ((4096 : Int) < m) = false := by simp [hbig]
    have hm : m ≤ 4096 := by omega
    go_enter Try.func7, Try.ntmps7
    go_wp2_with (go_at_call 8; refine (bigT_any _ _ _ _).mono ?_; rintro e w' ⟨rfl, rfl⟩; simp only [hd])
    refine (drawTumble_any A m c bs _ hm hr hb).mono ?_
    rintro e w1 ⟨mir, gr, loss, xs, O, C, N, hN, hxl, ht, rfl, ho1, hb1⟩
    have HT := Lib.hid ht
    have r1 := Rd.of_own bdC_len rfl ho1
    obtain ⟨n, hn⟩ : ∃ n, n = xs.length := ⟨_, rfl⟩
    simp only [tumV]
    rw [← hn] at r1 hxl ⊢
    have HN := Lib.hid hn
    clear ht ho1 hn
    go_wp2_with fail
    obtain ⟨V1, hV1⟩ : ∃ V, V = w1.alloc (Obj.cells #[.int .i64 mir, .complex .f32 gr.1 gr.2, .float .f32 loss, .slice O n C] 37) := ⟨_, rfl⟩
    have bV1 : Below w1.heap.size w1 V1 := by rw [hV1]; (repeat (first | with_reducible assumption | exact Below.refl _ _ | (refine Below.setCell ?_ (by first | exact Nat.le_refl _ | (simp; done) | omega | (simp; omega)) _) | (refine below_drewN ?_ _) | (refine Below.drew ?_) | (refine Below.alloc ?_ (by first | exact Nat.le_refl _ | (simp; done) | omega | (simp; omega)) _) | (refine then_ ?_ (by with_reducible assumption)) | assumption | (refine then_ ?_ (by assumption))))
    have BM : BoxT V1 w1.heap.size mir gr loss (.slice O n C) := by rw [hV1]; exact boxT_new _ _ _ _ _ _
    rw [← hV1]
    have k3 : ((N : Int) / 2) = ((N / 2 : Nat) : Int) := by omega
    rw [k3]
    obtain ⟨k, hk⟩ : ∃ k, k = N / 2 := ⟨_, rfl⟩
    have hkN : k ≤ N := by omega
    rw [← hk]
    have SP := Lib.hid (runS_split (mir := mir) (gr := gr) (loss := loss) (bs := xs) hkN)
    have CS := Lib.hid (fun h => cnt_split (mir := mir) (gr := gr) (loss := loss) (bs := xs) hkN h)
    have BD := Lib.hid (fun i x (h : (cntB mir gr loss xs N)[i]? = some x) => And.intro (cnt_bd h) (cnt_zero h))
    have rM := r1.step bV1
    have B1 := then_ hb1 bV1
    clear hV1 bV1 hb1 r1 k3 hk
    have KN := Lib.hid (fun w h => bounceT_any mir gr loss n O C xs N w HN.out HT.out (by omega) h)
    have KS := Lib.hid (fun w h => specBounces_any mir gr loss O n C xs N w hxl (by omega) HT.out h)
    have KK := Lib.hid (fun w h => bounceT_any mir gr loss n O C xs k w HN.out HT.out (by omega) h)
    have KR := Lib.hid (fun w h => runT_len mir gr loss n O C xs k w HN.out HT.out (by omega) h)
    (with_reducible refine (KN.out _ rM).mono ?_)
    rintro e w2 ⟨⟨hy, hno⟩, hb2⟩
    obtain ⟨xk, hxk⟩ : ∃ xk, xk = runB mir gr loss xs k := ⟨_, rfl⟩
    have TK := Lib.hid (show tumB mir gr loss xk = true by rw [hxk]; exact runB_tum HT.out k)
    have LK := Lib.hid (show n = xk.length by rw [hxk, runB_len]; exact HN.out)
    obtain ⟨ok, hok⟩ : ∃ ok, ok = runS mir gr loss xs N := ⟨_, rfl⟩
    obtain ⟨one, hone⟩ : ∃ one, one = runS mir gr loss xs k := ⟨_, rfl⟩
    obtain ⟨two, htwo⟩ : ∃ two, two = runS mir gr loss xk (N - k) := ⟨_, rfl⟩
    rw [← hok] at hy hno CS SP
    rw [← hone] at CS SP
    rw [← hxk, ← htwo] at CS SP
    have HOK := Lib.hid hok
    have HONE := Lib.hid hone
    have HTWO := Lib.hid htwo
    have HXK := Lib.hid hxk
    clear hok hone htwo hxk KN
    cases ok
    · have H12 : one = true → two = false := fun h => (SP.out.2 h).1.symm
      have H12 := Lib.hid H12
      obtain rfl := hno rfl
      have BM := BM.keep hb2
      have rM := rM.step hb2
      have B2 := then_ B1 hb2
      have lM := BM.lt
      obtain ⟨m0, m1, m2, m3⟩ := id BM
      clear hy hno hb2 B1
      go_wp2_with fail
      (with_reducible refine (KS.out _ rM).mono ?_)
      rw [← HOK.out]
      rintro e w3 ⟨⟨sv, rfl⟩, hb3⟩
      have BM := BM.keep hb3
      have rM := rM.step hb3
      have B3 := then_ B2 hb3
      have lM := BM.lt
      clear hb3 B2 KS m0 m1 m2 m3
      obtain ⟨m0, m1, m2, m3⟩ := id BM

      go_wp2_with fail
      (with_reducible refine (KK.out _ rM).mono ?_)
      rw [← HONE.out]
      rintro e w4 ⟨⟨hy, hno⟩, hb4⟩
      have BM := BM.keep hb4
      have rM := rM.step hb4
      have B4 := then_ B3 hb4
      have lM := BM.lt
      clear hb4 B3 KK m0 m1 m2 m3
      obtain ⟨m0, m1, m2, m3⟩ := id BM
      cases one
      · obtain rfl := hno rfl
        clear hy hno
        go_wp2_with fail
        (with_reducible refine (KR.out _ rM).mono ?_)
        rw [← HONE.out, ← HXK.out]
        rintro e w5 ⟨B5, d5, rfl, r5, hb5⟩
        have KB := Lib.hid (fun w h => bounceT_any mir gr loss n B5 d5 xk (N - k) w LK.out TK.out (by omega) h)
        have BM := BM.keep hb5
        have B5' := then_ B4 hb5
        simp only [tumV]
        clear hb5 B4 KR
        have hsub : ((N : Int) - (k : Int)) = ((N - k : Nat) : Int) := by omega
        go_wp2_with fail
        obtain ⟨V3, hV3⟩ : ∃ V, V = w5.alloc (Obj.cells #[.int .i64 mir, .complex .f32 gr.1 gr.2, .float .f32 loss, .slice B5 n d5] 37) := ⟨_, rfl⟩
        have bV3 : Below w5.heap.size w5 V3 := by rw [hV3]; (repeat (first | with_reducible assumption | exact Below.refl _ _ | (refine Below.setCell ?_ (by first | exact Nat.le_refl _ | (simp; done) | omega | (simp; omega)) _) | (refine below_drewN ?_ _) | (refine Below.drew ?_) | (refine Below.alloc ?_ (by first | exact Nat.le_refl _ | (simp; done) | omega | (simp; omega)) _) | (refine then_ ?_ (by with_reducible assumption)) | assumption | (refine then_ ?_ (by assumption))))
        rw [← hV3]
        have BM := BM.keep bV3
        have rK := r5.step bV3
        have B6 := then_ B5' bV3
        clear hV3 bV3 r5 B5'
        (with_reducible refine (KB.out _ rK).mono ?_)
        rintro e w6 ⟨⟨hy, hno⟩, hb6⟩

        rw [← HTWO.out] at hy hno
        have B7 := then_ B6 hb6
        clear hb6 B6
        cases two
        · obtain rfl := hno rfl
          go_wp2
          go_ret
          exact ⟨rfl, B7⟩
        · obtain ⟨F, q, rfl, _⟩ := hy rfl
          go_wp2
          go_ret
          exact ⟨rfl, B7⟩
      · have h2 := H12.out rfl
        obtain ⟨F, q, rfl, _⟩ := hy rfl
        clear hy hno
        go_wp2_with fail
        (with_reducible refine (KR.out _ rM).mono ?_)
        rw [← HONE.out, ← HXK.out]
        rintro e w5 ⟨B5, d5, rfl, r5, hb5⟩
        have KB := Lib.hid (fun w h => bounceT_any mir gr loss n B5 d5 xk (N - k) w LK.out TK.out (by omega) h)
        have BM := BM.keep hb5
        have B5' := then_ B4 hb5
        simp only [tumV]
        clear hb5 B4 KR
        have hsub : ((N : Int) - (k : Int)) = ((N - k : Nat) : Int) := by omega
        go_wp2_with fail
        obtain ⟨V3, hV3⟩ : ∃ V, V = w5.alloc (Obj.cells #[.int .i64 mir, .complex .f32 gr.1 gr.2, .float .f32 loss, .slice B5 n d5] 37) := ⟨_, rfl⟩
        have bV3 : Below w5.heap.size w5 V3 := by rw [hV3]; (repeat (first | with_reducible assumption | exact Below.refl _ _ | (refine Below.setCell ?_ (by first | exact Nat.le_refl _ | (simp; done) | omega | (simp; omega)) _) | (refine below_drewN ?_ _) | (refine Below.drew ?_) | (refine Below.alloc ?_ (by first | exact Nat.le_refl _ | (simp; done) | omega | (simp; omega)) _) | (refine then_ ?_ (by with_reducible assumption)) | assumption | (refine then_ ?_ (by assumption))))
        rw [← hV3]
        have BM := BM.keep bV3
        have rK := r5.step bV3
        have B6 := then_ B5' bV3
        clear hV3 bV3 r5 B5'
        (with_reducible refine (KB.out _ rK).mono ?_)
        rintro e w6 ⟨⟨hy, hno⟩, hb6⟩

        rw [← HTWO.out, h2] at hno
        have B7 := then_ B6 hb6
        clear hb6 B6 hy
        obtain rfl := hno rfl
        go_wp2
        go_ret
        exact ⟨rfl, B7⟩
    · obtain ⟨h1, h2, h3⟩ := CS.out rfl
      subst h1 h2
      obtain ⟨F, q, rfl, rF⟩ := hy rfl
      have rF := rF.step (Below.refl _ _)
      have C3 := Lib.hid h3
      clear h3
      have BM := BM.keep hb2
      have rM := rM.step hb2
      have B2 := then_ B1 hb2
      have lM := BM.lt
      obtain ⟨m0, m1, m2, m3⟩ := id BM
      have rF := rF
      clear hy hno hb2 B1
      go_wp2_with fail
      (with_reducible refine (KS.out _ rM).mono ?_)
      rw [← HOK.out]
      rintro e w3 ⟨⟨sv, rfl⟩, hb3⟩
      have BM := BM.keep hb3
      have rM := rM.step hb3
      have rF := rF.step hb3
      have B3 := then_ B2 hb3
      have lM := BM.lt
      clear hb3 B2 KS m0 m1 m2 m3
      obtain ⟨m0, m1, m2, m3⟩ := id BM

      go_wp2_with fail
      (with_reducible refine (KK.out _ rM).mono ?_)
      rw [← HONE.out]
      rintro e w4 ⟨⟨hy, hno⟩, hb4⟩
      obtain ⟨G, p, rfl, rG⟩ := hy rfl
      have BM := BM.keep hb4
      have rM := rM.step hb4
      have rF := rF.step hb4
      have B4 := then_ B3 hb4
      have lM := BM.lt
      clear hy hno hb4 B3 KK m0 m1 m2 m3
      obtain ⟨m0, m1, m2, m3⟩ := id BM
      go_wp2_with fail
      (with_reducible refine (KR.out _ rM).mono ?_)
      rw [← HONE.out, ← HXK.out]
      rintro e w5 ⟨B5, d5, rfl, r5, hb5⟩
      have KB := Lib.hid (fun w h => bounceT_any mir gr loss n B5 d5 xk (N - k) w LK.out TK.out (by omega) h)
      have BM := BM.keep hb5
      have rF := rF.step hb5
      have rG := rG.step hb5
      have B5' := then_ B4 hb5
      simp only [tumV]
      clear hb5 B4 KR rM m0 m1 m2 m3
      have hsub : ((N : Int) - (k : Int)) = ((N - k : Nat) : Int) := by omega
      go_wp2_with fail
      obtain ⟨V3, hV3⟩ : ∃ V, V = w5.alloc (Obj.cells #[.int .i64 mir, .complex .f32 gr.1 gr.2, .float .f32 loss, .slice B5 n d5] 37) := ⟨_, rfl⟩
      have bV3 : Below w5.heap.size w5 V3 := by rw [hV3]; (repeat (first | with_reducible assumption | exact Below.refl _ _ | (refine Below.setCell ?_ (by first | exact Nat.le_refl _ | (simp; done) | omega | (simp; omega)) _) | (refine below_drewN ?_ _) | (refine Below.drew ?_) | (refine Below.alloc ?_ (by first | exact Nat.le_refl _ | (simp; done) | omega | (simp; omega)) _) | (refine then_ ?_ (by with_reducible assumption)) | assumption | (refine then_ ?_ (by assumption))))
      rw [← hV3]
      have BM := BM.keep bV3
      have rF := rF.step bV3
      have rG := rG.step bV3
      have rK := r5.step bV3
      have B6 := then_ B5' bV3
      clear hV3 bV3 r5 B5'
      (with_reducible refine (KB.out _ rK).mono ?_)
      rintro e w6 ⟨⟨hy, hno⟩, hb6⟩
      rw [← HTWO.out] at hy
      obtain ⟨H, s, rfl, rH⟩ := hy rfl
      have BM := Lib.hid (BM.keep hb6)
      have rF := rF.step hb6
      have rG := rG.step hb6
      have B7 := Lib.hid (then_ B6 hb6)
      clear hy hno hb6 B6 rK hsub
      have hnn : ((n : Int) != (n : Int)) = false := by simp
      obtain ⟨m0, m1, m2, m3⟩ := id BM.out
      have lM := BM.out.lt
      go_wp2_with fail
      go_loopw [16] (fun i wr => ∃ j : Nat, j ≤ n ∧ i = .int .i64 j ∧ Below w6.heap.size w6 wr) (fun i _ => n - (intOf i).toNat)
      case atStart => exact ⟨0, Nat.zero_le _, rfl, Below.refl _ _⟩
      case round =>
        clear m0 m1 m2 m3 lM
        obtain ⟨j, hj, rfl, hw⟩ := hrel
        obtain ⟨m0, m1, m2, m3⟩ := BM.out.keep hw
        have lM := World.block_lt_of_cell? _ _ m0
        dsimp only at lM
        by_cases hlt : j < n
        · have hji : (j : Int) < (n : Int) := by omega
          have hj0 : (0 : Int) ≤ (j : Int) := by omega
          obtain ⟨b1, o1, x, rfl, hb1, hx, c1⟩ := (rF.step hw).intB hlt
          obtain ⟨b2, o2, y, rfl, hb2, hy, c2⟩ := (rG.step hw).intB hlt
          obtain ⟨b3, o3, z, rfl, hb3, hz, c3⟩ := (rH.step hw).intB hlt
          have hxyz : x = y + z := by
            have := C3.out
            rw [this, List.getElem?_zipWith, hy, hz] at hx
            injection hx with hx
            exact hx.symm
          obtain ⟨⟨hx0, hxN⟩, hmz⟩ := BD.out j x hx
          have hwr : wrap64 (y + z) = x := by rw [← hxyz]; unfold wrap64; omega
          have hgt : decide ((N : Int) < x) = false := by simp; omega
          have hxx : (x != x) = false := by simp
          clear hx hy hz hxyz hx0 hxN
          by_cases hm0 : mir = 0
          · have hx0 := hmz hm0
            have e1 : (mir == 0) = true := by simp [hm0]
            have e2 : (x != 0) = false := by simp [hx0]
            clear hmz hm0 hx0
            go_wp2_with fail
            go_quiet (fail)
            go_wp2
            go_roundw
            case rel => exact ⟨j + 1, by omega, by go_num, below_drewN hw _⟩
            case measure => simp [intOf]; omega
          · have e1 : (mir == 0) = false := by simp [hm0]
            clear hmz hm0
            go_wp2_with fail
            go_quiet (fail)
            go_wp2
            go_roundw
            case rel => exact ⟨j + 1, by omega, by go_num, below_drewN hw _⟩
            case measure => simp [intOf]; omega
        · obtain rfl : j = n := by omega
          go_wp2
          go_ret
          exact ⟨rfl, then_ B7.out hw⟩

namespace fnBounces
theorem own : ownKnob Try.prog.godebug = none := by kernel_rfl
theorem laidOut : laidOutB Try.prog = true := by kernel_rfl
set_option maxRecDepth 100000 in
theorem lifted (os : Os) (started : os.Started) (H : Type) (enc : TypeId × Value → H) :
    ReturnsInHanded {} Try.checked os 7 .any (Rows.fnBouncesSpec.pre6 enc Try.prog Try.f7 Rows.fnBouncesRow.domain false) (Rows.fnBouncesSpec.post enc Try.prog Try.f7 false true false false) := by
  refine returnsInHanded_of_change (C := Try.checked) own started (by kernel_rfl) Try.func7
    (ChangeSpec.witness6 (enc := enc) (C := Try.checked) false ⟨#[], #[.slice none 0 0], []⟩ 8 (by kernel_rfl) (by kernel_rfl) (by kernel_rfl) (by kernel_rfl)) ?_
  intro W base args ds gs before hval0 hW hcnd _
  have hval : ∀ (j : Nat) t v, Try.f7.params[j]? = some t → args[j]? = some v → Value.okWide Try.prog W .any base t v := hval0
  have hW' := hW
  obtain ⟨p, q, hA0, hV, rfl, hfz, hnd⟩ := hW
  have hA : DataW.TrodAll enc Try.prog W 0 (fun _ => true) true Try.f7.params.toList args.toList ds p := hA0
  rw [Try.params7] at hA hval
  obtain ⟨v0, vs0, d0, ds0, p0, q0, hargs, rfl, rfl, h0, r0⟩ := trodAll_cons hA
  obtain ⟨rfl, rfl, rfl⟩ := trodAll_nil r0
  obtain rfl : args = #[v0] := by cases args; simp_all
  obtain ⟨rfl, rfl⟩ := trodVars_none hV
  have k0 := h0
  have lt0 : ∀ x ∈ p0, x.block < W.heap.size := by obtain ⟨m, hm⟩ := k0; exact DataW.trod_lt m _ _ _ hm
  obtain ⟨A, n, c, bs, rfl, hn, ha, hbs⟩ := open_bytes Try.underlying22 Try.underlying5 (by kernel_rfl) (hval 0 22 v0 rfl rfl) h0
  clear hA0 hval0
  refine (lawBounces A n c bs W ha hbs).mono fun e W' ⟨he, bel⟩ => ?_
  subst he
  exact ⟨_, rfl, _, _, _, [], _, [], hW', trodAll_mk1 (shut_bool Try.underlying4 _), (trodAll_cons_mk (Below.trod laidOut (by kernel_rfl) (of_decide_eq_true (by kernel_rfl)) k0 bel lt0) trodAll_mk0), rfl, bel.frame _, fun h => by cases h⟩

theorem and_mk {a b : Bool} (h : a = true) (k : b = true) : (a && b) = true := by rw [h, k]; rfl
set_option maxHeartbeats 40000000 in
theorem facts : joinedFacts Try.pinned.checked.prog 7 Try.f7 Rows.fnBouncesSpec Rows.fnBouncesRow = true := by
  unfold joinedFacts
  repeat (with_reducible refine and_mk ?_ ?_)
  all_goals (as_aux_lemma => kernel_rfl)
theorem named_ : Try.pinned.checked.prog.funcNamed Rows.fnBouncesRow.func = some 7 := by kernel_rfl
theorem over : Rows.fnBouncesRow.holds Try.pinned (OpenSpec.ofChange Rows.fnBouncesSpec) :=
  OpenClaim.holds_of_wide 7 Try.f7 rfl rfl rfl rfl rfl rfl rfl ⟨rfl, rfl, rfl, rfl, rfl⟩ rfl rfl rfl rfl rfl named_ Try.func7 facts
    (of_decide_eq_true (by kernel_rfl)) (by unfold Func.isWrapper; first | (rw [if_pos (by decide +kernel)]; kernel_rfl) | (rw [if_neg (by decide +kernel)]; exact ⟨rfl, rfl⟩))
    (fun os started H enc _ => lifted os started H enc)

theorem proved : Rows.FnBouncesSaid := over
end fnBounces
end Go.Proofs.Ytdjbpbolliphkaa
