
/- For every input: pictures differ in as many cells from one side as from the other, and in none exactly if they are the same (FnDiffer answers true). No condition. -/
import Derived.Test.YthlkpopmoodmgaaDifL
import Derived.Test.YthlkpopmoodmgaaHas
import Derived.Test.YthlkpopmoodmgaaSpread
import Derived.Test.YthlkpopmoodmgaaMarkT
import Derived.Test.YthlkpopmoodmgaaOpen
import Derived.ProofKit
import Derived.ChangeOld
import Derived.Below
import Derived.Deep.RegionHeld3
import Derived.Laws.Cover3
namespace Go.Proofs.Ythlkpopmoodmgaa
open Go.ChangeShapes Go.WideShapes Go.ChangeAt Go.RowKit

theorem fmt_pic {q : Nat} {xs : List Col} (hp : Pic q xs) : (fmtL ((q : Int) + 1) xs).length = q + 1 ∧ ∃ T, (fmtL ((q : Int) + 1) xs)[0]? = some T ∧ T.length = 4 * (q + 1) - 1 := by
  have e : ((q : Int) + 1).toNat = q + 1 := by omega
  have e2 : fmtL ((q : Int) + 1) xs = fmtUp (q + 1) xs (q + 1) := by unfold fmtL; rw [pic_ok hp, if_pos rfl, e]
  rw [e2]
  refine ⟨fmtUp_len _ _ _, rowUp xs (0 * (q + 1)) (q + 1), ?_, rowUp_len _ _ _⟩
  unfold fmtUp
  simp

set_option maxRecDepth 100000 in
set_option maxHeartbeats 8000000 in
theorem lawDiffer (A : Option Addr) (m c : Nat) (bs : List Int) (w : World) (hr : Rd byteC 1 w w.heap.size A m bs) (hb : ∀ x ∈ bs, 0 ≤ x ∧ x ≤ 255) :
    Calls Try.prog 9 #[.slice A m c] w fun e w' => e = .returned (.bool true) ∧ Below w.heap.size w w' := by
  by_cases hbig : (4096 : Int) < m
  · have hd : decide ((4096 : Int) < m) = true := by simpa using hbig
    go_enter Try.func9, Try.ntmps9
    go_wp2_with (go_at_call 39; refine (bigS_any _ _ _ _).mono ?_; rintro e w' ⟨rfl, rfl⟩; rw [hd])
    go_ret
    exact ⟨rfl, by (repeat (first | with_reducible assumption | exact Below.refl _ _ | (refine Below.setCell ?_ (by first | exact Nat.le_refl _ | (simp; done) | omega | (simp; omega)) _) | (refine below_drewN ?_ _) | (refine Below.drew ?_) | (refine Below.alloc ?_ (by first | exact Nat.le_refl _ | (simp; done) | omega | (simp; omega)) _) | (refine then_ ?_ (by with_reducible assumption)) | assumption | (refine then_ ?_ (by assumption))))⟩
  · have hd : decide ((4096 : Int) < m) = false := by simpa using hbig
    go_enter Try.func9, Try.ntmps9
    go_wp2_with fail
    refine (bigS_any _ _ _ _).mono ?_
    rintro e w' ⟨rfl, rfl⟩
    rw [hd]
    go_wp2_with fail
    refine (drawPicture_any A m c bs _ (by omega) (hr.step (by (repeat (first | with_reducible assumption | exact Below.refl _ _ | (refine Below.setCell ?_ (by first | exact Nat.le_refl _ | (simp; done) | omega | (simp; omega)) _) | (refine below_drewN ?_ _) | (refine Below.drew ?_) | (refine Below.alloc ?_ (by first | exact Nat.le_refl _ | (simp; done) | omega | (simp; omega)) _) | (refine then_ ?_ (by with_reducible assumption)) | assumption | (refine then_ ?_ (by assumption)))))) hb).mono ?_
    rintro e w1 ⟨q, xs, O, C, hq5, hp, rfl, hr1, hb1⟩
    have hn := pic_len hp
    have nx : xs.length ≤ maxLen := by unfold maxLen; omega
    have hW1 : Below w.heap.size w w1 := by (repeat (first | with_reducible assumption | exact Below.refl _ _ | (refine Below.setCell ?_ (by first | exact Nat.le_refl _ | (simp; done) | omega | (simp; omega)) _) | (refine below_drewN ?_ _) | (refine Below.drew ?_) | (refine Below.alloc ?_ (by first | exact Nat.le_refl _ | (simp; done) | omega | (simp; omega)) _) | (refine then_ ?_ (by with_reducible assumption)) | assumption | (refine then_ ?_ (by assumption))))
    obtain ⟨kk, hkk⟩ : ∃ kk : Nat, (m : Int) % 4 = (kk : Int) := ⟨m % 4, by omega⟩
    have hk4 : kk < 4 := by omega
    obtain ⟨sp1, sp2⟩ := spread_pic hp hk4
    have ks := fun A c w h => spreadPicture_any (kk : Int) ((q : Int) + 1) A xs.length c xs w nx h
    rw [sp1] at ks
    dsimp only at ks
    obtain ⟨ys, hys⟩ : ∃ ys, ys = spreadUp (kk : Int) ((q : Int) + 1) xs xs.length := ⟨_, rfl⟩
    rw [← hys] at ks sp2
    generalize spreadOk (kk : Int) ((q : Int) + 1) xs = ob at ks
    obtain ⟨n, f, d1, d2, hf, hz1, hz2⟩ := differ_facts hp sp2
    obtain ⟨hrl, T, hT0, hTl⟩ := fmt_pic hp
    have ny : ys.length ≤ maxLen := by have := pic_len sp2; unfold maxLen; omega
    have k1 := fun A B c d w ha hb => differOf_any A B ((q : Int) + 1) ((q : Int) + 1) xs.length ys.length c d xs ys w nx ny ha hb
    have k2 := fun A B c d w ha hb => differOf_any A B ((q : Int) + 1) ((q : Int) + 1) ys.length xs.length c d ys xs w ny nx ha hb
    have k3 := fun A B c d w ha hb => samePicture_any A B ((q : Int) + 1) ((q : Int) + 1) xs.length ys.length c d xs ys w nx ny ha hb
    have k4 := fun A c w ha => formatPicture_any ((q : Int) + 1) A xs.length c xs w nx ha
    rw [d1] at k1
    rw [d2] at k2
    obtain ⟨z, hz⟩ : ∃ z, z = sameP ((q : Int) + 1) xs ((q : Int) + 1) ys := ⟨_, rfl⟩
    rw [← hz] at k3 hz1
    rw [hz1] at hz2
    obtain ⟨rs, hrs⟩ : ∃ rs, rs = fmtL ((q : Int) + 1) xs := ⟨_, rfl⟩
    rw [← hrs] at k4 hrl hT0
    have ho1 := ord_ff hf
    have ho2 := ord_f0 hf
    rw [← hz2] at ho2
    obtain ⟨S, hS⟩ : ∃ S : Nat, S = q + 1 := ⟨_, rfl⟩
    have eS : (q : Int) + 1 = (S : Int) := by omega
    have hrl' : rs.length = S := by omega
    have hTl' : (T.length : Int) = 4 * (S : Int) - 1 := by omega
    have S5 : S ≤ 5 := by omega
    have S1 : 1 ≤ S := by omega
    rw [eS] at ks k1 k2 k3 k4 ⊢
    have KS := Lib.hid ks
    have K1 := Lib.hid k1
    have K2 := Lib.hid k2
    have K3 := Lib.hid k3
    have K4 := Lib.hid k4
    have HT := Lib.hid hT0
    have RL := Lib.hid hrl'
    clear ks k1 k2 k3 k4 hz hrs hrl hTl hS hys sp1 sp2 d1 d2 hp hb1 hrl' hT0 eS hz2 hf
    go_wp2_with fail
    obtain ⟨V1, hVe⟩ : ∃ V, V = w1.alloc (Obj.cells #[.int .i64 (S : Int), .slice O xs.length C] 29) := ⟨_, rfl⟩
    have hV1 : Below w1.heap.size w1 V1 := by rw [hVe]; (repeat (first | with_reducible assumption | exact Below.refl _ _ | (refine Below.setCell ?_ (by first | exact Nat.le_refl _ | (simp; done) | omega | (simp; omega)) _) | (refine below_drewN ?_ _) | (refine Below.drew ?_) | (refine Below.alloc ?_ (by first | exact Nat.le_refl _ | (simp; done) | omega | (simp; omega)) _) | (refine then_ ?_ (by with_reducible assumption)) | assumption | (refine then_ ?_ (by assumption))))
    have zV1 : w1.heap.size < V1.heap.size := by rw [hVe]; simp
    have p0 : V1.cell? ⟨w1.heap.size, 0, none⟩ = some (.int .i64 (S : Int)) := by rw [hVe]; simp [go_sem]
    have p1 : V1.cell? ⟨w1.heap.size, 1, none⟩ = some (.slice O xs.length C) := by rw [hVe]; simp [go_sem]
    rw [← hVe]
    have rV1 := hr1.step hV1
    have hW2 := then_ hW1 hV1
    clear hVe hr1 hV1 hW1
    rw [hkk]
    refine (KS.out _ _ _ rV1).mono ?_
    rintro e w2 ⟨B2, d2, rfl, ho2', hb2⟩
    have y2 := Rd.of_own colC_len rfl ho2'
    have p0 := keepC p0 hb2
    have p1 := keepC p1 hb2
    have r2 := rV1.step hb2
    have hW3 := then_ hW2 hb2
    have z12 : w1.heap.size < w2.heap.size := by have := hb2.size; omega
    clear rV1 hb2 hW2 ho2'
    go_wp2_with fail
    obtain ⟨V, hVe⟩ : ∃ V, V = w2.alloc (Obj.cells #[.int .i64 (S : Int), .slice B2 ys.length d2] 29) := ⟨_, rfl⟩
    have hV : Below w2.heap.size w2 V := by rw [hVe]; (repeat (first | with_reducible assumption | exact Below.refl _ _ | (refine Below.setCell ?_ (by first | exact Nat.le_refl _ | (simp; done) | omega | (simp; omega)) _) | (refine below_drewN ?_ _) | (refine Below.drew ?_) | (refine Below.alloc ?_ (by first | exact Nat.le_refl _ | (simp; done) | omega | (simp; omega)) _) | (refine then_ ?_ (by with_reducible assumption)) | assumption | (refine then_ ?_ (by assumption))))
    have zV : w2.heap.size < V.heap.size := by rw [hVe]; simp
    have g0 : V.cell? ⟨w2.heap.size, 0, none⟩ = some (.int .i64 (S : Int)) := by rw [hVe]; simp [go_sem]
    have g1 : V.cell? ⟨w2.heap.size, 1, none⟩ = some (.slice B2 ys.length d2) := by rw [hVe]; simp [go_sem]
    have p0 := keepC p0 hV
    have p1 := keepC p1 hV
    have rx := r2.step hV
    have ry := y2.step hV
    have hWV := then_ hW3 hV
    rw [← hVe]
    clear hVe r2 y2 hV hW3
    refine (K1.out _ _ _ _ _ rx ry).mono ?_
    rintro e w3 ⟨rfl, hb3⟩
    have p0 := keepC p0 hb3
    have p1 := keepC p1 hb3
    have g0 := keepC g0 hb3
    have g1 := keepC g1 hb3
    have rx := rx.step hb3
    have ry := ry.step hb3
    have hW4 := then_ hWV hb3
    clear hb3 hWV
    go_wp2_with fail
    refine (K2.out _ _ _ _ _ ry rx).mono ?_
    rintro e w4 ⟨rfl, hb4⟩
    have p0 := keepC p0 hb4
    have p1 := keepC p1 hb4
    have g0 := keepC g0 hb4
    have g1 := keepC g1 hb4
    have rx := rx.step hb4
    have ry := ry.step hb4
    have hW5 := then_ hW4 hb4
    clear hb4 hW4
    cases z
    all_goals
      go_wp2_with fail
      refine (K3.out _ _ _ _ _ rx ry).mono ?_
      rintro e w5 ⟨rfl, hb5⟩
      have p0 := keepC p0 hb5
      have p1 := keepC p1 hb5
      have rx := rx.step hb5
      have hW6 := then_ hW5 hb5
      clear hb5 hW5
      go_wp2_with fail
      refine (K4.out _ _ _ rx).mono ?_
      rintro e w6 ⟨B6, d6, rfl, ho6, hb6⟩
      have r6 := Rd.of_own bsC_len rfl ho6
      have p0 := keepC p0 hb6
      have p1 := keepC p1 hb6
      have hW7 := then_ hW6 hb6
      have RL := RL.out
      rw [RL] at r6
      rw [RL]
      obtain ⟨b, off, T', rfl, hbl, hT', c0⟩ := r6.str (show 0 < S by omega)
      rw [HT.out] at hT'
      injection hT' with hT'
      subst hT'
      rw [Nat.add_zero] at c0
      have lb := World.block_lt_of_cell? _ _ c0
      dsimp only at lb
      have hS0 : (0 : Int) < (S : Int) := by omega
      clear ho6 hb6 hW6 RL
      go_wp2
      go_quiet (fail)
      go_wp2
      go_ret
      exact ⟨by simp, below_drewN hW7 _⟩

namespace fnDiffer
theorem own : ownKnob Try.prog.godebug = none := by kernel_rfl
theorem laidOut : laidOutB Try.prog = true := by kernel_rfl
set_option maxRecDepth 100000 in
theorem lifted (os : Os) (started : os.Started) (H : Type) (enc : TypeId × Value → H) :
    ReturnsInHanded {} Try.checked os 9 .any (Rows.fnDifferSpec.pre6 enc Try.prog Try.f9 Rows.fnDifferRow.domain false) (Rows.fnDifferSpec.post enc Try.prog Try.f9 false true false false) := by
  refine returnsInHanded_of_change (C := Try.checked) own started (by kernel_rfl) Try.func9
    (ChangeSpec.witness6 (enc := enc) (C := Try.checked) false ⟨#[], #[.slice none 0 0], []⟩ 8 (by kernel_rfl) (by kernel_rfl) (by kernel_rfl) (by kernel_rfl)) ?_
  intro W base args ds gs before hval0 hW hcnd _
  have hval : ∀ (j : Nat) t v, Try.f9.params[j]? = some t → args[j]? = some v → Value.okWide Try.prog W .any base t v := hval0
  have hW' := hW
  obtain ⟨p, q, hA0, hV, rfl, hfz, hnd⟩ := hW
  have hA : DataW.TrodAll enc Try.prog W 0 (fun _ => true) true Try.f9.params.toList args.toList ds p := hA0
  rw [Try.params9] at hA hval
  obtain ⟨v0, vs0, d0, ds0, p0, q0, hargs, rfl, rfl, h0, r0⟩ := trodAll_cons hA
  obtain ⟨rfl, rfl, rfl⟩ := trodAll_nil r0
  obtain rfl : args = #[v0] := by cases args; simp_all
  obtain ⟨rfl, rfl⟩ := trodVars_none hV
  have k0 := h0
  have lt0 : ∀ x ∈ p0, x.block < W.heap.size := by obtain ⟨m, hm⟩ := k0; exact DataW.trod_lt m _ _ _ hm
  obtain ⟨A, n, c, bs, rfl, hn, ha, hbs⟩ := open_bytes Try.underlying58 Try.underlying5 (by kernel_rfl) (hval 0 58 v0 rfl rfl) h0
  clear hA0 hval0
  refine (lawDiffer A n c bs W ha hbs).mono fun e W' ⟨he, bel⟩ => ?_
  subst he
  exact ⟨_, rfl, _, _, _, [], _, [], hW', trodAll_mk1 (shut_bool Try.underlying4 _), (trodAll_cons_mk (Below.trod laidOut (by kernel_rfl) (of_decide_eq_true (by kernel_rfl)) k0 bel lt0) trodAll_mk0), rfl, bel.frame _, fun h => by cases h⟩

theorem and_mk {a b : Bool} (h : a = true) (k : b = true) : (a && b) = true := by rw [h, k]; rfl
set_option maxHeartbeats 40000000 in
theorem facts : joinedFacts Try.pinned.checked.prog 9 Try.f9 Rows.fnDifferSpec Rows.fnDifferRow = true := by
  unfold joinedFacts
  repeat (with_reducible refine and_mk ?_ ?_)
  all_goals (as_aux_lemma => kernel_rfl)
theorem named_ : Try.pinned.checked.prog.funcNamed Rows.fnDifferRow.func = some 9 := by kernel_rfl
theorem over : Rows.fnDifferRow.holds Try.pinned (OpenSpec.ofChange Rows.fnDifferSpec) :=
  OpenClaim.holds_of_wide 9 Try.f9 rfl rfl rfl rfl rfl rfl rfl ⟨rfl, rfl, rfl, rfl, rfl⟩ rfl rfl rfl rfl rfl named_ Try.func9 facts
    (of_decide_eq_true (by kernel_rfl)) (by unfold Func.isWrapper; first | (rw [if_pos (by decide +kernel)]; kernel_rfl) | (rw [if_neg (by decide +kernel)]; exact ⟨rfl, rfl⟩))
    (fun os started H enc _ => lifted os started H enc)

theorem proved : Rows.FnDifferSaid := over
end fnDiffer
end Go.Proofs.Ythlkpopmoodmgaa
