
/- FnMirrorsAgain: changing the mirrors to the same ones changes no bead; a light may as well come before another event. -/
import Derived.Test.YthlphmojldbpkaaGreatM6
import Derived.Test.YthlphmojldbpkaaGreatDrawShow
import Derived.Test.YthlphmojldbpkaaGreatM35
import Derived.Test.YthlphmojldbpkaaGreatSeenIn
import Derived.Test.YthlphmojldbpkaaGreatM40
import Derived.Test.YthlphmojldbpkaaGreatM38
import Derived.Test.YthlphmojldbpkaaGreatM23
import Derived.ProofKit
import Derived.ChangeOld
import Derived.Deep.RegionHeld3
import Derived.Deep.RegionLaw
import Derived.Below
import Derived.Laws.Cover3
namespace Go.Proofs.YthlphmojldbpkaaGreat
open Go.ChangeShapes Go.WideShapes Go.ChangeAt Go.RowKit
attribute [local go_sem] run_store_float run_store_complex

theorem mirAgain_any (s : Shw) (S B L : Option Addr) (k d q : Nat) (w : World) (hg : Good s) (hk : okS s = true) (hr : RdS w s S B L) :
    Calls Tryz.prog 8 #[.agg #[.int .i64 s.sz, .float .f32 s.st, .float .f32 s.li.1, .float .f32 s.li.2.1, .float .f32 s.li.2.2, .slice S s.sh.length k, .int .i64 s.mir, .complex .f32 s.gr.1 s.gr.2, .float .f32 s.loss, .slice B s.bs.length d, .int .i64 s.tk, .slice L s.log.length q], .agg #[.int .i64 4, .int .i64 s.mir, .complex .f32 0 0, .complex .f32 0 0, .complex .f32 0 0, .complex .f32 0 0, .float .f32 0, .float .f32 0, .float .f32 0, .float .f32 0, .float .f32 0, .float .f32 0, .float .f32 0]] w fun r w' => (∃ (ok : Bool) (S2 B2 L2 : Option Addr) (k2 d2 n2 q2 : Nat), r = .returned (.tuple #[.agg #[.int .i64 s.sz, .float .f32 s.st, .float .f32 s.li.1, .float .f32 s.li.2.1, .float .f32 s.li.2.2, .slice S2 s.sh.length k2, .int .i64 s.mir, .complex .f32 s.gr.1 s.gr.2, .float .f32 s.loss, .slice B2 s.bs.length d2, .int .i64 s.tk, .slice L2 n2 q2], .bool ok]) ∧ Rd bdC 2 w' w'.heap.size B2 s.bs.length s.bs) ∧ Below w.heap.size w w' := by
  refine (doEvent_any s (.mirrors s.mir) S B L k d q w hg hk rfl hr).mono ?_
  rintro r w' ⟨⟨S2, B2, L2, k2, d2, q2, rfl, own⟩, hb⟩
  cases hd : doE s (.mirrors s.mir) with
  | none =>
    rw [hd] at own
    simp only [Option.getD_none] at own ⊢
    exact ⟨⟨_, S2, B2, L2, k2, d2, _, q2, rfl, own.rd.rb⟩, hb⟩
  | some t =>
    have ht := doE_mir hg hk hd
    subst ht
    rw [hd] at own
    simp only [Option.getD_some] at own ⊢
    exact ⟨⟨_, S2, B2, L2, k2, d2, _, q2, rfl, own.rd.rb⟩, hb⟩
/-- the light that is put in -/
def colA : Col := (1056964608, 0, 1048576000)
theorem colA_ok : colB colA = true := by decide +kernel
theorem rd_two (w : World) (a b : Ev) (t : TypeId) : Rd evC 13 (w.alloc (Obj.cells ((evC a ++ evC b).toArray) t)) (w.alloc (Obj.cells ((evC a ++ evC b).toArray) t)).heap.size (some ⟨w.heap.size, 0, none⟩) 2 [a, b] := by
  refine ⟨rfl, fun _ => ⟨_, _, rfl, by simp, ?_⟩⟩
  have hc := CA.new w ((evC a ++ evC b).toArray) t
  intro k x hx j u hu
  have hj : j < 13 := by have := (List.getElem?_eq_some_iff.1 hu).1; rwa [evC_len] at this
  have hk2 : k = 0 ∨ k = 1 := by have := (List.getElem?_eq_some_iff.1 hx).1; simp at this; omega
  refine hc _ _ ?_
  simp only []
  rcases hk2 with rfl | rfl
  · injection hx with hx
    subst hx
    rw [show 0 + 0 * 13 + j = j by omega, List.getElem?_append_left (by rw [evC_len]; exact hj)]
    exact hu
  · injection hx with hx
    subst hx
    rw [show 0 + 1 * 13 + j = 13 + j by omega, List.getElem?_append_right (by rw [evC_len]; omega), evC_len, show 13 + j - 13 = j by omega]
    exact hu
theorem sameP_self {s : Int} {xs : List Col} (h : xs.all colB = true) : sameP s xs s xs = true := (sameP_iff h h rfl).2 fun _ _ => rfl
theorem evs_two {a b : Ev} (ha : evG a = true) (hb : evG b = true) : [a, b].all evG = true := by simp [ha, hb]
/-- what a run tells: where it stops -/
theorem runI_at {s : Shw} {es : List Ev} {n : Nat} {base : Nat} {r : Ending} {w' : World} (h : RunI s es n base r w') (hn : runK s es n = none) : ∃ (k : Nat) (t : Shw) (A B L : Option Addr) (c d q : Nat), k < n ∧ runK s es k = some t ∧ (∃ e, es[k]? = some e ∧ doE t e = none) ∧ r = .returned (.tuple #[.agg #[.int .i64 t.sz, .float .f32 t.st, .float .f32 t.li.1, .float .f32 t.li.2.1, .float .f32 t.li.2.2, .slice A t.sh.length c, .int .i64 t.mir, .complex .f32 t.gr.1 t.gr.2, .float .f32 t.loss, .slice B t.bs.length d, .int .i64 t.tk, .slice L t.log.length q], .int .i64 (k : Int)]) ∧ OwnS w' base t A B L c d q := by
  obtain ⟨k, t, A, B, L, c, d, q, hr, hk, hc, rfl, own⟩ := h
  have hkn : k ≠ n := fun e => by subst e; rw [hr] at hn; cases hn
  rcases hc with e | hc
  · exact absurd e hkn
  · exact ⟨k, t, A, B, L, c, d, q, by omega, hr, hc, rfl, own⟩

theorem Rd.size {α : Type} {enc : α → List Value} {sz : Nat} {w : World} {B : Nat} {A : Option Addr} {n : Nat} {xs : List α} (_ : Rd enc sz w B A n xs) : True := trivial
theorem Rd.alloc {α : Type} {enc : α → List Value} {sz : Nat} {w : World} {A : Option Addr} {n : Nat} {xs : List α} (h : Rd enc sz w w.heap.size A n xs) (_ : True) (o : Obj) : Rd enc sz (w.alloc o) (w.alloc o).heap.size A n xs := h.step (Below.alloc (Below.refl _ _) (Nat.le_refl _) _)
theorem specRunShow_all (s u : Shw) (es : List Ev) (A B L H : Option Addr) (c d q n nc : Nat) (w : World) (hg : Good s) (hk : okS s = true) (he : es.all evG = true) (hn : n ≤ 1000) (hr : RdS w s A B L) (rE : Rd evC 13 w w.heap.size H n es) (hu : runK s es n = some u) :
    Calls Tryz.prog 26 #[.agg #[.int .i64 s.sz, .float .f32 s.st, .float .f32 s.li.1, .float .f32 s.li.2.1, .float .f32 s.li.2.2, .slice A s.sh.length c, .int .i64 s.mir, .complex .f32 s.gr.1 s.gr.2, .float .f32 s.loss, .slice B s.bs.length d, .int .i64 s.tk, .slice L s.log.length q], .slice H n nc] w fun r w' => (∃ A B L c d q, r = .returned (.tuple #[.agg #[.int .i64 u.sz, .float .f32 u.st, .float .f32 u.li.1, .float .f32 u.li.2.1, .float .f32 u.li.2.2, .slice A u.sh.length c, .int .i64 u.mir, .complex .f32 u.gr.1 u.gr.2, .float .f32 u.loss, .slice B u.bs.length d, .int .i64 u.tk, .slice L u.log.length q], .int .i64 (n : Int)]) ∧ OwnS w' w.heap.size u A B L c d q) ∧ Below w.heap.size w w' := by
  refine (specRunShow_any s es A B L H c d q n nc w hg hk he hn hr rE).mono ?_
  rintro r w' ⟨⟨k, t, A1, B1, L1, c1, d1, q1, hrun, hkn, hc, rfl, own⟩, hb⟩
  obtain ⟨rfl, rfl⟩ := run_all hu hrun hkn hc
  exact ⟨⟨A1, B1, L1, c1, d1, q1, rfl, own⟩, hb⟩
theorem side_of {s : Shw} (h : Good s) : ∃ q : Nat, s.sz = (q : Int) + 1 ∧ q < 8 := by
  obtain ⟨h1, h2⟩ := inB_true h.sz
  exact ⟨(s.sz - 1).toNat, by omega, by omega⟩
theorem seen_good {s : Shw} (h : Good s) {N : Nat} (hN : s.sz * s.sz = (N : Int)) : (takeUp s.mir s.sz s.st (glassUp s.sh s.bs s.sh.length) s.li N).all colB = true := by
  obtain ⟨q, hq, h8⟩ := side_of h
  have e : N = (q + 1) * (q + 1) := by
    rw [hq] at hN
    have : ((q : Int) + 1) * ((q : Int) + 1) = (((q + 1) * (q + 1) : Nat) : Int) := by push_cast; rfl
    rw [this] at hN
    exact (Int.ofNat.inj hN).symm
  rw [hq, e]
  exact (take_pic h8 (glassUp_ok _ _ _) h.li).2.2
set_option maxRecDepth 100000 in
set_option maxHeartbeats 32000000 in
theorem lawAgain (A : Option Addr) (m c : Nat) (bs : List Int) (w : World) (hr : Rd byteC 1 w w.heap.size A m bs) (hb : ∀ x ∈ bs, 0 ≤ x ∧ x ≤ 255) :
    Calls Tryz.prog 5 #[.slice A m c] w fun e w' => e = .returned (.bool true) ∧ Below w.heap.size w w' := by
  by_cases hbig : (4096 : Int) < m
  · have hd : decide ((4096 : Int) < m) = true := by simp [hbig]
    go_enter Tryz.func5, Tryz.ntmps5
    go_wp2_with (go_at_call 6; refine (bigT_any _ _ _ _).mono ?_; rintro e w' ⟨rfl, rfl⟩; simp only [hd])
    go_ret
    exact ⟨rfl, by (repeat (first | with_reducible assumption | exact Below.refl _ _ | (refine Below.setCell ?_ (by first | exact Nat.le_refl _ | (simp; done) | omega | (simp; omega)) _) | (refine below_drewN ?_ _) | (refine Below.drew ?_) | (refine Below.alloc ?_ (by first | exact Nat.le_refl _ | (simp; done) | omega | (simp; omega)) _) | (refine then_ ?_ (by with_reducible assumption)) | assumption | (refine then_ ?_ (by assumption))))⟩
  · have hd : decide ((4096 : Int) < m) = false := by simp [hbig]
    have hm : m ≤ 4096 := by omega
    go_enter Tryz.func5, Tryz.ntmps5
    go_wp2_with (go_at_call 6; refine (bigT_any _ _ _ _).mono ?_; rintro e w' ⟨rfl, rfl⟩; simp only [hd])
    refine (drawShow_any A m c bs _ hm hr hb).mono ?_
    rintro r w1 ⟨s, e, S, B, L, k, d, q, HD, he, rfl, own, hW⟩
    have hg := HD.good
    have hk := HD.ok
    obtain ⟨p1, p2, p3, p4⟩ := okS_parts.1 hk
    have KD := Lib.hid (fun w h => mirAgain_any s S B L k d q w hg hk h)
    have KT := Lib.hid (fun B2 d2 w h1 h2 => sameTumble_self s B2 B d2 d w hg p1 h1 h2)
    have HDD := Lib.hid HD
    have HE := Lib.hid he
    clear hr hb hd hbig HD he hg hk p2 p3 p4
    go_upto_region 4 with fail
    have ca := CA.new w1 #[.int .i64 s.sz, .float .f32 s.st, .float .f32 s.li.1, .float .f32 s.li.2.1, .float .f32 s.li.2.2, .slice S s.sh.length k, .int .i64 s.mir, .complex .f32 s.gr.1 s.gr.2, .float .f32 s.loss, .slice B s.bs.length d, .int .i64 s.tk, .slice L s.log.length q] 34; have fa := FA.new w1 #[.int .i64 s.sz, .float .f32 s.st, .float .f32 s.li.1, .float .f32 s.li.2.1, .float .f32 s.li.2.2, .slice S s.sh.length k, .int .i64 s.mir, .complex .f32 s.gr.1 s.gr.2, .float .f32 s.loss, .slice B s.bs.length d, .int .i64 s.tk, .slice L s.log.length q] 34; replace hW := hW.alloc (hW.size) (Obj.cells #[.int .i64 s.sz, .float .f32 s.st, .float .f32 s.li.1, .float .f32 s.li.2.1, .float .f32 s.li.2.2, .slice S s.sh.length k, .int .i64 s.mir, .complex .f32 s.gr.1 s.gr.2, .float .f32 s.loss, .slice B s.bs.length d, .int .i64 s.tk, .slice L s.log.length q] 34); replace own := own.alloc (own.size) (Obj.cells #[.int .i64 s.sz, .float .f32 s.st, .float .f32 s.li.1, .float .f32 s.li.2.1, .float .f32 s.li.2.2, .slice S s.sh.length k, .int .i64 s.mir, .complex .f32 s.gr.1 s.gr.2, .float .f32 s.loss, .slice B s.bs.length d, .int .i64 s.tk, .slice L s.log.length q] 34); obtain ⟨V1, hV1e⟩ : ∃ V1, V1 = w1.alloc (Obj.cells #[.int .i64 s.sz, .float .f32 s.st, .float .f32 s.li.1, .float .f32 s.li.2.1, .float .f32 s.li.2.2, .slice S s.sh.length k, .int .i64 s.mir, .complex .f32 s.gr.1 s.gr.2, .float .f32 s.loss, .slice B s.bs.length d, .int .i64 s.tk, .slice L s.log.length q] 34) := ⟨_, rfl⟩; have zV1 : V1.heap.size = w1.heap.size + 1 := (by rw [hV1e]; simp); rw [← hV1e] at ca fa hW own; rw [← hV1e]; clear hV1e; have la := ca.lt
    have cb := CA.new V1 #[.int .i64 e.k, .int .i64 e.n, .complex .f32 e.z.1 e.z.2, .complex .f32 e.s.1.1 e.s.1.2, .complex .f32 e.s.2.1.1 e.s.2.1.2, .complex .f32 e.s.2.2.1.1 e.s.2.2.1.2, .float .f32 e.s.2.2.2.1.1, .float .f32 e.s.2.2.2.1.2.1, .float .f32 e.s.2.2.2.1.2.2, .float .f32 e.s.2.2.2.2, .float .f32 e.c.1, .float .f32 e.c.2.1, .float .f32 e.c.2.2] 38; have fb := FA.new V1 #[.int .i64 e.k, .int .i64 e.n, .complex .f32 e.z.1 e.z.2, .complex .f32 e.s.1.1 e.s.1.2, .complex .f32 e.s.2.1.1 e.s.2.1.2, .complex .f32 e.s.2.2.1.1 e.s.2.2.1.2, .float .f32 e.s.2.2.2.1.1, .float .f32 e.s.2.2.2.1.2.1, .float .f32 e.s.2.2.2.1.2.2, .float .f32 e.s.2.2.2.2, .float .f32 e.c.1, .float .f32 e.c.2.1, .float .f32 e.c.2.2] 38; replace ca := ca.alloc (Obj.cells #[.int .i64 e.k, .int .i64 e.n, .complex .f32 e.z.1 e.z.2, .complex .f32 e.s.1.1 e.s.1.2, .complex .f32 e.s.2.1.1 e.s.2.1.2, .complex .f32 e.s.2.2.1.1 e.s.2.2.1.2, .float .f32 e.s.2.2.2.1.1, .float .f32 e.s.2.2.2.1.2.1, .float .f32 e.s.2.2.2.1.2.2, .float .f32 e.s.2.2.2.2, .float .f32 e.c.1, .float .f32 e.c.2.1, .float .f32 e.c.2.2] 38); replace fa := fa.alloc la (Obj.cells #[.int .i64 e.k, .int .i64 e.n, .complex .f32 e.z.1 e.z.2, .complex .f32 e.s.1.1 e.s.1.2, .complex .f32 e.s.2.1.1 e.s.2.1.2, .complex .f32 e.s.2.2.1.1 e.s.2.2.1.2, .float .f32 e.s.2.2.2.1.1, .float .f32 e.s.2.2.2.1.2.1, .float .f32 e.s.2.2.2.1.2.2, .float .f32 e.s.2.2.2.2, .float .f32 e.c.1, .float .f32 e.c.2.1, .float .f32 e.c.2.2] 38); replace hW := hW.alloc (hW.size) (Obj.cells #[.int .i64 e.k, .int .i64 e.n, .complex .f32 e.z.1 e.z.2, .complex .f32 e.s.1.1 e.s.1.2, .complex .f32 e.s.2.1.1 e.s.2.1.2, .complex .f32 e.s.2.2.1.1 e.s.2.2.1.2, .float .f32 e.s.2.2.2.1.1, .float .f32 e.s.2.2.2.1.2.1, .float .f32 e.s.2.2.2.1.2.2, .float .f32 e.s.2.2.2.2, .float .f32 e.c.1, .float .f32 e.c.2.1, .float .f32 e.c.2.2] 38); replace own := own.alloc (own.size) (Obj.cells #[.int .i64 e.k, .int .i64 e.n, .complex .f32 e.z.1 e.z.2, .complex .f32 e.s.1.1 e.s.1.2, .complex .f32 e.s.2.1.1 e.s.2.1.2, .complex .f32 e.s.2.2.1.1 e.s.2.2.1.2, .float .f32 e.s.2.2.2.1.1, .float .f32 e.s.2.2.2.1.2.1, .float .f32 e.s.2.2.2.1.2.2, .float .f32 e.s.2.2.2.2, .float .f32 e.c.1, .float .f32 e.c.2.1, .float .f32 e.c.2.2] 38); obtain ⟨V, hVe⟩ : ∃ V, V = V1.alloc (Obj.cells #[.int .i64 e.k, .int .i64 e.n, .complex .f32 e.z.1 e.z.2, .complex .f32 e.s.1.1 e.s.1.2, .complex .f32 e.s.2.1.1 e.s.2.1.2, .complex .f32 e.s.2.2.1.1 e.s.2.2.1.2, .float .f32 e.s.2.2.2.1.1, .float .f32 e.s.2.2.2.1.2.1, .float .f32 e.s.2.2.2.1.2.2, .float .f32 e.s.2.2.2.2, .float .f32 e.c.1, .float .f32 e.c.2.1, .float .f32 e.c.2.2] 38) := ⟨_, rfl⟩; have zV : V.heap.size = V1.heap.size + 1 := (by rw [hVe]; simp); rw [← hVe] at cb fb ca fa hW own; rw [← hVe]; clear hVe; have lb := cb.lt; replace la := ca.lt
    rw [zV1] at cb fb lb zV
    clear zV1 zV
    have a0 := ca 0 _ rfl; have a1 := ca 1 _ rfl; have a2 := ca 2 _ rfl; have a3 := ca 3 _ rfl; have a4 := ca 4 _ rfl; have a5 := ca 5 _ rfl; have a6 := ca 6 _ rfl; have a7 := ca 7 _ rfl; have a8 := ca 8 _ rfl; have a9 := ca 9 _ rfl; have a10 := ca 10 _ rfl; have a11 := ca 11 _ rfl
    have b0 := cb 0 _ rfl; have b1 := cb 1 _ rfl; have b2 := cb 2 _ rfl; have b3 := cb 3 _ rfl; have b4 := cb 4 _ rfl; have b5 := cb 5 _ rfl; have b6 := cb 6 _ rfl; have b7 := cb 7 _ rfl; have b8 := cb 8 _ rfl; have b9 := cb 9 _ rfl; have b10 := cb 10 _ rfl; have b11 := cb 11 _ rfl; have b12 := cb 12 _ rfl
    have R := Lib.hid own.rd
    go_wp2_with fail
    (with_reducible refine (KD.out _ R.out).mono ?_)
    rintro r w2 ⟨⟨ok, S2, B2, L2, k2, d2, n2, q2, rfl, rb2⟩, hb2⟩
    clear a0 a1 a2 a3 a4 a5 a6 a7 a8 a9 a10 a11 b0 b1 b2 b3 b4 b5 b6 b7 b8 b9 b10 b11 b12 R KD
    replace own := own.below hb2
    replace ca := ca.keep hb2; replace fa := fa.keep hb2 la; replace la := ca.lt; replace cb := cb.keep hb2; replace fb := fb.keep hb2 lb; replace lb := cb.lt; replace hW := then_ hW hb2
    clear hb2
    go_upto_region 5 with fail
    have ct := CA.new w2 #[.int .i64 s.sz, .float .f32 s.st, .float .f32 s.li.1, .float .f32 s.li.2.1, .float .f32 s.li.2.2, .slice S2 s.sh.length k2, .int .i64 s.mir, .complex .f32 s.gr.1 s.gr.2, .float .f32 s.loss, .slice B2 s.bs.length d2, .int .i64 s.tk, .slice L2 n2 q2] 34; have ft := FA.new w2 #[.int .i64 s.sz, .float .f32 s.st, .float .f32 s.li.1, .float .f32 s.li.2.1, .float .f32 s.li.2.2, .slice S2 s.sh.length k2, .int .i64 s.mir, .complex .f32 s.gr.1 s.gr.2, .float .f32 s.loss, .slice B2 s.bs.length d2, .int .i64 s.tk, .slice L2 n2 q2] 34; replace ca := ca.alloc (Obj.cells #[.int .i64 s.sz, .float .f32 s.st, .float .f32 s.li.1, .float .f32 s.li.2.1, .float .f32 s.li.2.2, .slice S2 s.sh.length k2, .int .i64 s.mir, .complex .f32 s.gr.1 s.gr.2, .float .f32 s.loss, .slice B2 s.bs.length d2, .int .i64 s.tk, .slice L2 n2 q2] 34); replace fa := fa.alloc la (Obj.cells #[.int .i64 s.sz, .float .f32 s.st, .float .f32 s.li.1, .float .f32 s.li.2.1, .float .f32 s.li.2.2, .slice S2 s.sh.length k2, .int .i64 s.mir, .complex .f32 s.gr.1 s.gr.2, .float .f32 s.loss, .slice B2 s.bs.length d2, .int .i64 s.tk, .slice L2 n2 q2] 34); replace cb := cb.alloc (Obj.cells #[.int .i64 s.sz, .float .f32 s.st, .float .f32 s.li.1, .float .f32 s.li.2.1, .float .f32 s.li.2.2, .slice S2 s.sh.length k2, .int .i64 s.mir, .complex .f32 s.gr.1 s.gr.2, .float .f32 s.loss, .slice B2 s.bs.length d2, .int .i64 s.tk, .slice L2 n2 q2] 34); replace fb := fb.alloc lb (Obj.cells #[.int .i64 s.sz, .float .f32 s.st, .float .f32 s.li.1, .float .f32 s.li.2.1, .float .f32 s.li.2.2, .slice S2 s.sh.length k2, .int .i64 s.mir, .complex .f32 s.gr.1 s.gr.2, .float .f32 s.loss, .slice B2 s.bs.length d2, .int .i64 s.tk, .slice L2 n2 q2] 34); replace hW := hW.alloc (hW.size) (Obj.cells #[.int .i64 s.sz, .float .f32 s.st, .float .f32 s.li.1, .float .f32 s.li.2.1, .float .f32 s.li.2.2, .slice S2 s.sh.length k2, .int .i64 s.mir, .complex .f32 s.gr.1 s.gr.2, .float .f32 s.loss, .slice B2 s.bs.length d2, .int .i64 s.tk, .slice L2 n2 q2] 34); replace own := own.alloc (own.size) (Obj.cells #[.int .i64 s.sz, .float .f32 s.st, .float .f32 s.li.1, .float .f32 s.li.2.1, .float .f32 s.li.2.2, .slice S2 s.sh.length k2, .int .i64 s.mir, .complex .f32 s.gr.1 s.gr.2, .float .f32 s.loss, .slice B2 s.bs.length d2, .int .i64 s.tk, .slice L2 n2 q2] 34); replace rb2 := rb2.alloc (rb2.size) (Obj.cells #[.int .i64 s.sz, .float .f32 s.st, .float .f32 s.li.1, .float .f32 s.li.2.1, .float .f32 s.li.2.2, .slice S2 s.sh.length k2, .int .i64 s.mir, .complex .f32 s.gr.1 s.gr.2, .float .f32 s.loss, .slice B2 s.bs.length d2, .int .i64 s.tk, .slice L2 n2 q2] 34); obtain ⟨V3, hV3e⟩ : ∃ V3, V3 = w2.alloc (Obj.cells #[.int .i64 s.sz, .float .f32 s.st, .float .f32 s.li.1, .float .f32 s.li.2.1, .float .f32 s.li.2.2, .slice S2 s.sh.length k2, .int .i64 s.mir, .complex .f32 s.gr.1 s.gr.2, .float .f32 s.loss, .slice B2 s.bs.length d2, .int .i64 s.tk, .slice L2 n2 q2] 34) := ⟨_, rfl⟩; have zV3 : V3.heap.size = w2.heap.size + 1 := (by rw [hV3e]; simp); rw [← hV3e] at ct ft ca fa cb fb hW own rb2; rw [← hV3e]; clear hV3e; have lt := ct.lt; replace la := ca.lt; replace lb := cb.lt
    clear zV3
    have a0 := ca 0 _ rfl; have a1 := ca 1 _ rfl; have a2 := ca 2 _ rfl; have a3 := ca 3 _ rfl; have a4 := ca 4 _ rfl; have a5 := ca 5 _ rfl; have a6 := ca 6 _ rfl; have a7 := ca 7 _ rfl; have a8 := ca 8 _ rfl; have a9 := ca 9 _ rfl; have a10 := ca 10 _ rfl; have a11 := ca 11 _ rfl
    have b0 := cb 0 _ rfl; have b1 := cb 1 _ rfl; have b2 := cb 2 _ rfl; have b3 := cb 3 _ rfl; have b4 := cb 4 _ rfl; have b5 := cb 5 _ rfl; have b6 := cb 6 _ rfl; have b7 := cb 7 _ rfl; have b8 := cb 8 _ rfl; have b9 := cb 9 _ rfl; have b10 := cb 10 _ rfl; have b11 := cb 11 _ rfl; have b12 := cb 12 _ rfl
    have t0 := ct 0 _ rfl; have t1 := ct 1 _ rfl; have t2 := ct 2 _ rfl; have t3 := ct 3 _ rfl; have t4 := ct 4 _ rfl; have t5 := ct 5 _ rfl; have t6 := ct 6 _ rfl; have t7 := ct 7 _ rfl; have t8 := ct 8 _ rfl; have t9 := ct 9 _ rfl; have t10 := ct 10 _ rfl; have t11 := ct 11 _ rfl
    go_upto_region 6 with fail
    clear a0 a1 a2 a3 a4 a5 a6 a7 a8 a9 a10 a11 b0 b1 b2 b3 b4 b5 b6 b7 b8 b9 b10 b11 b12 t0 t1 t2 t3 t4 t5 t6 t7 t8 t9 t10 t11
    have cl := CA.new V3 #[.int .i64 3, .int .i64 0, .complex .f32 0 0, .complex .f32 0 0, .complex .f32 0 0, .complex .f32 0 0, .float .f32 0, .float .f32 0, .float .f32 0, .float .f32 0, .float .f32 1056964608, .float .f32 0, .float .f32 1048576000] 38; have fl := FA.new V3 #[.int .i64 3, .int .i64 0, .complex .f32 0 0, .complex .f32 0 0, .complex .f32 0 0, .complex .f32 0 0, .float .f32 0, .float .f32 0, .float .f32 0, .float .f32 0, .float .f32 1056964608, .float .f32 0, .float .f32 1048576000] 38; replace ca := ca.alloc (Obj.cells #[.int .i64 3, .int .i64 0, .complex .f32 0 0, .complex .f32 0 0, .complex .f32 0 0, .complex .f32 0 0, .float .f32 0, .float .f32 0, .float .f32 0, .float .f32 0, .float .f32 1056964608, .float .f32 0, .float .f32 1048576000] 38); replace fa := fa.alloc la (Obj.cells #[.int .i64 3, .int .i64 0, .complex .f32 0 0, .complex .f32 0 0, .complex .f32 0 0, .complex .f32 0 0, .float .f32 0, .float .f32 0, .float .f32 0, .float .f32 0, .float .f32 1056964608, .float .f32 0, .float .f32 1048576000] 38); replace cb := cb.alloc (Obj.cells #[.int .i64 3, .int .i64 0, .complex .f32 0 0, .complex .f32 0 0, .complex .f32 0 0, .complex .f32 0 0, .float .f32 0, .float .f32 0, .float .f32 0, .float .f32 0, .float .f32 1056964608, .float .f32 0, .float .f32 1048576000] 38); replace fb := fb.alloc lb (Obj.cells #[.int .i64 3, .int .i64 0, .complex .f32 0 0, .complex .f32 0 0, .complex .f32 0 0, .complex .f32 0 0, .float .f32 0, .float .f32 0, .float .f32 0, .float .f32 0, .float .f32 1056964608, .float .f32 0, .float .f32 1048576000] 38); replace ct := ct.alloc (Obj.cells #[.int .i64 3, .int .i64 0, .complex .f32 0 0, .complex .f32 0 0, .complex .f32 0 0, .complex .f32 0 0, .float .f32 0, .float .f32 0, .float .f32 0, .float .f32 0, .float .f32 1056964608, .float .f32 0, .float .f32 1048576000] 38); replace ft := ft.alloc lt (Obj.cells #[.int .i64 3, .int .i64 0, .complex .f32 0 0, .complex .f32 0 0, .complex .f32 0 0, .complex .f32 0 0, .float .f32 0, .float .f32 0, .float .f32 0, .float .f32 0, .float .f32 1056964608, .float .f32 0, .float .f32 1048576000] 38); replace hW := hW.alloc (hW.size) (Obj.cells #[.int .i64 3, .int .i64 0, .complex .f32 0 0, .complex .f32 0 0, .complex .f32 0 0, .complex .f32 0 0, .float .f32 0, .float .f32 0, .float .f32 0, .float .f32 0, .float .f32 1056964608, .float .f32 0, .float .f32 1048576000] 38); replace own := own.alloc (own.size) (Obj.cells #[.int .i64 3, .int .i64 0, .complex .f32 0 0, .complex .f32 0 0, .complex .f32 0 0, .complex .f32 0 0, .float .f32 0, .float .f32 0, .float .f32 0, .float .f32 0, .float .f32 1056964608, .float .f32 0, .float .f32 1048576000] 38); replace rb2 := rb2.alloc (rb2.size) (Obj.cells #[.int .i64 3, .int .i64 0, .complex .f32 0 0, .complex .f32 0 0, .complex .f32 0 0, .complex .f32 0 0, .float .f32 0, .float .f32 0, .float .f32 0, .float .f32 0, .float .f32 1056964608, .float .f32 0, .float .f32 1048576000] 38); obtain ⟨V4, hV4e⟩ : ∃ V4, V4 = V3.alloc (Obj.cells #[.int .i64 3, .int .i64 0, .complex .f32 0 0, .complex .f32 0 0, .complex .f32 0 0, .complex .f32 0 0, .float .f32 0, .float .f32 0, .float .f32 0, .float .f32 0, .float .f32 1056964608, .float .f32 0, .float .f32 1048576000] 38) := ⟨_, rfl⟩; have zV4 : V4.heap.size = V3.heap.size + 1 := (by rw [hV4e]; simp); rw [← hV4e] at cl fl ca fa cb fb ct ft hW own rb2; rw [← hV4e]; clear hV4e; have ll := cl.lt; replace la := ca.lt; replace lb := cb.lt; replace lt := ct.lt
    clear zV4
    obtain ⟨zq3, hzq3⟩ : ∃ zq3, zq3 = (e.k == 3) := ⟨_, rfl⟩
    have hk3 : (e.k == 3) = zq3 := hzq3.symm
    have HB3 := Lib.hid hzq3
    clear hzq3
    have R1 := Lib.hid own.rd.rb
    have R2 := Lib.hid rb2
    have a0 := ca 0 _ rfl; have a1 := ca 1 _ rfl; have a2 := ca 2 _ rfl; have a3 := ca 3 _ rfl; have a4 := ca 4 _ rfl; have a5 := ca 5 _ rfl; have a6 := ca 6 _ rfl; have a7 := ca 7 _ rfl; have a8 := ca 8 _ rfl; have a9 := ca 9 _ rfl; have a10 := ca 10 _ rfl; have a11 := ca 11 _ rfl
    have b0 := cb 0 _ rfl; have b1 := cb 1 _ rfl; have b2 := cb 2 _ rfl; have b3 := cb 3 _ rfl; have b4 := cb 4 _ rfl; have b5 := cb 5 _ rfl; have b6 := cb 6 _ rfl; have b7 := cb 7 _ rfl; have b8 := cb 8 _ rfl; have b9 := cb 9 _ rfl; have b10 := cb 10 _ rfl; have b11 := cb 11 _ rfl; have b12 := cb 12 _ rfl
    have t0 := ct 0 _ rfl; have t1 := ct 1 _ rfl; have t2 := ct 2 _ rfl; have t3 := ct 3 _ rfl; have t4 := ct 4 _ rfl; have t5 := ct 5 _ rfl; have t6 := ct 6 _ rfl; have t7 := ct 7 _ rfl; have t8 := ct 8 _ rfl; have t9 := ct 9 _ rfl; have t10 := ct 10 _ rfl; have t11 := ct 11 _ rfl
    go_cut [49] (fun v wx => v = .bool zq3 ∧ Below V4.heap.size V4 wx)
    case first =>
      cases ok
      · go_wp2_with fail
        go_meet
        exact ⟨rfl, Below.refl _ _⟩
      · go_wp2_with fail
        (with_reducible refine (KT.out _ _ _ R2.out R1.out).mono ?_)
        rintro r w5 ⟨rfl, hb5⟩
        have b0' := keepC b0 hb5
        have lb5 := hb5.size
        have lbb : w1.heap.size + 1 < w5.heap.size := World.block_lt_of_cell? _ _ b0'
        go_wp2_with fail
        go_meet
        exact ⟨rfl, hb5⟩
    case rest =>
      obtain ⟨rfl, hwc⟩ := hcut
      clear a0 a1 a2 a3 a4 a5 a6 a7 a8 a9 a10 a11 b0 b1 b2 b3 b4 b5 b6 b7 b8 b9 b10 b11 b12 t0 t1 t2 t3 t4 t5 t6 t7 t8 t9 t10 t11 R1 R2 hk3
      replace own := own.below hwc
      replace rb2 := rb2.step hwc
      replace ca := ca.keep hwc; replace fa := fa.keep hwc la; replace la := ca.lt; replace cb := cb.keep hwc; replace fb := fb.keep hwc lb; replace lb := cb.lt; replace ct := ct.keep hwc; replace ft := ft.keep hwc lt; replace lt := ct.lt; replace cl := cl.keep hwc; replace fl := fl.keep hwc ll; replace ll := cl.lt; replace hW := then_ hW hwc
      clear hwc
      obtain ⟨X, hX⟩ : ∃ X, X = wc := ⟨_, rfl⟩
      rw [← hX] at own rb2 ca fa la cb fb lb ct ft lt cl fl ll hW
      rw [← hX]
      clear hX
      cases zq3
      case true =>
        have R1 := Lib.hid own.rd.rb
        have R2 := Lib.hid rb2
        have a0 := ca 0 _ rfl; have a1 := ca 1 _ rfl; have a2 := ca 2 _ rfl; have a3 := ca 3 _ rfl; have a4 := ca 4 _ rfl; have a5 := ca 5 _ rfl; have a6 := ca 6 _ rfl; have a7 := ca 7 _ rfl; have a8 := ca 8 _ rfl; have a9 := ca 9 _ rfl; have a10 := ca 10 _ rfl; have a11 := ca 11 _ rfl
        have t0 := ct 0 _ rfl; have t1 := ct 1 _ rfl; have t2 := ct 2 _ rfl; have t3 := ct 3 _ rfl; have t4 := ct 4 _ rfl; have t5 := ct 5 _ rfl; have t6 := ct 6 _ rfl; have t7 := ct 7 _ rfl; have t8 := ct 8 _ rfl; have t9 := ct 9 _ rfl; have t10 := ct 10 _ rfl; have t11 := ct 11 _ rfl
        cases ok
        · go_wp2
          go_ret
          exact ⟨rfl, hW⟩
        · go_wp2_with fail
          (with_reducible refine (KT.out _ _ _ R2.out R1.out).mono ?_)
          rintro r w5 ⟨rfl, hb5⟩
          go_wp2
          go_ret
          exact ⟨rfl, then_ hW hb5⟩
      case false =>
        have he3 : e.k ≠ 3 := by
          intro h
          have := HB3.out
          rw [h] at this
          cases this
        clear rb2 ct ft lt KT
        have hg := HDD.out.good
        have hk := HDD.out.ok
        rcases swap_light s colA e hk he3 with ⟨t, l1, l2, ha, hb⟩ | ⟨ha, hb⟩
        · obtain ⟨ga, ka⟩ := runK_good hg hk (evs_two (a := .light colA) colA_ok HE.out) ha
          obtain ⟨gb, kb⟩ := runK_good hg hk (evs_two (b := .light colA) HE.out colA_ok) hb
          have KA := Lib.hid (fun H w h1 h2 => (show Calls Tryz.prog 25 #[.agg #[.int .i64 s.sz, .float .f32 s.st, .float .f32 s.li.1, .float .f32 s.li.2.1, .float .f32 s.li.2.2, .slice S s.sh.length k, .int .i64 s.mir, .complex .f32 s.gr.1 s.gr.2, .float .f32 s.loss, .slice B s.bs.length d, .int .i64 s.tk, .slice L s.log.length q], .slice H 2 2] w (fun r w' => (∃ A B L c d q, r = .returned (.tuple #[.agg #[.int .i64 t.sz, .float .f32 t.st, .float .f32 1056964608, .float .f32 0, .float .f32 1048576000, .slice A t.sh.length c, .int .i64 t.mir, .complex .f32 t.gr.1 t.gr.2, .float .f32 t.loss, .slice B t.bs.length d, .int .i64 t.tk, .slice L l1.length q], .int .i64 2]) ∧ OwnS w' w.heap.size (withL colA l1 t) A B L c d q) ∧ Below w.heap.size w w') from runShow_all s _ [.light colA, e] S B L H k d q 2 2 w hg hk (evs_two colA_ok HE.out) (by omega) h1 h2 ha))
          have KS := Lib.hid (fun H w h1 h2 => (show Calls Tryz.prog 26 #[.agg #[.int .i64 s.sz, .float .f32 s.st, .float .f32 s.li.1, .float .f32 s.li.2.1, .float .f32 s.li.2.2, .slice S s.sh.length k, .int .i64 s.mir, .complex .f32 s.gr.1 s.gr.2, .float .f32 s.loss, .slice B s.bs.length d, .int .i64 s.tk, .slice L s.log.length q], .slice H 2 2] w (fun r w' => (∃ A B L c d q, r = .returned (.tuple #[.agg #[.int .i64 t.sz, .float .f32 t.st, .float .f32 1056964608, .float .f32 0, .float .f32 1048576000, .slice A t.sh.length c, .int .i64 t.mir, .complex .f32 t.gr.1 t.gr.2, .float .f32 t.loss, .slice B t.bs.length d, .int .i64 t.tk, .slice L l1.length q], .int .i64 2]) ∧ OwnS w' w.heap.size (withL colA l1 t) A B L c d q) ∧ Below w.heap.size w w') from specRunShow_all s _ [.light colA, e] S B L H k d q 2 2 w hg hk (evs_two colA_ok HE.out) (by omega) h1 h2 ha))
          have KB := Lib.hid (fun H w h1 h2 => (show Calls Tryz.prog 25 #[.agg #[.int .i64 s.sz, .float .f32 s.st, .float .f32 s.li.1, .float .f32 s.li.2.1, .float .f32 s.li.2.2, .slice S s.sh.length k, .int .i64 s.mir, .complex .f32 s.gr.1 s.gr.2, .float .f32 s.loss, .slice B s.bs.length d, .int .i64 s.tk, .slice L s.log.length q], .slice H 2 2] w (fun r w' => (∃ A B L c d q, r = .returned (.tuple #[.agg #[.int .i64 t.sz, .float .f32 t.st, .float .f32 1056964608, .float .f32 0, .float .f32 1048576000, .slice A t.sh.length c, .int .i64 t.mir, .complex .f32 t.gr.1 t.gr.2, .float .f32 t.loss, .slice B t.bs.length d, .int .i64 t.tk, .slice L l2.length q], .int .i64 2]) ∧ OwnS w' w.heap.size (withL colA l2 t) A B L c d q) ∧ Below w.heap.size w w') from runShow_all s _ [e, .light colA] S B L H k d q 2 2 w hg hk (evs_two HE.out colA_ok) (by omega) h1 h2 hb))
          have a0 := ca 0 _ rfl; have a1 := ca 1 _ rfl; have a2 := ca 2 _ rfl; have a3 := ca 3 _ rfl; have a4 := ca 4 _ rfl; have a5 := ca 5 _ rfl; have a6 := ca 6 _ rfl; have a7 := ca 7 _ rfl; have a8 := ca 8 _ rfl; have a9 := ca 9 _ rfl; have a10 := ca 10 _ rfl; have a11 := ca 11 _ rfl
          have b0 := cb 0 _ rfl; have b1 := cb 1 _ rfl; have b2 := cb 2 _ rfl; have b3 := cb 3 _ rfl; have b4 := cb 4 _ rfl; have b5 := cb 5 _ rfl; have b6 := cb 6 _ rfl; have b7 := cb 7 _ rfl; have b8 := cb 8 _ rfl; have b9 := cb 9 _ rfl; have b10 := cb 10 _ rfl; have b11 := cb 11 _ rfl; have b12 := cb 12 _ rfl
          have l0 := cl 0 _ rfl; have l1 := cl 1 _ rfl; have l2 := cl 2 _ rfl; have l3 := cl 3 _ rfl; have l4 := cl 4 _ rfl; have l5 := cl 5 _ rfl; have l6 := cl 6 _ rfl; have l7 := cl 7 _ rfl; have l8 := cl 8 _ rfl; have l9 := cl 9 _ rfl; have l10 := cl 10 _ rfl; have l11 := cl 11 _ rfl; have l12 := cl 12 _ rfl
          go_wp2_with fail
          clear a0 a1 a2 a3 a4 a5 a6 a7 a8 a9 a10 a11 b0 b1 b2 b3 b4 b5 b6 b7 b8 b9 b10 b11 b12 l0 l1 l2 l3 l4 l5 l6 l7 l8 l9 l10 l11 l12
          have hal : Below X.heap.size X (X.alloc (Obj.cells #[.int .i64 3, .int .i64 0, .complex .f32 0 0, .complex .f32 0 0, .complex .f32 0 0, .complex .f32 0 0, .float .f32 0, .float .f32 0, .float .f32 0, .float .f32 0, .float .f32 1056964608, .float .f32 0, .float .f32 1048576000, .int .i64 e.k, .int .i64 e.n, .complex .f32 e.z.1 e.z.2, .complex .f32 e.s.1.1 e.s.1.2, .complex .f32 e.s.2.1.1 e.s.2.1.2, .complex .f32 e.s.2.2.1.1 e.s.2.2.1.2, .float .f32 e.s.2.2.2.1.1, .float .f32 e.s.2.2.2.1.2.1, .float .f32 e.s.2.2.2.1.2.2, .float .f32 e.s.2.2.2.2, .float .f32 e.c.1, .float .f32 e.c.2.1, .float .f32 e.c.2.2] 38)) := by (with_reducible exact Below.alloc (Below.refl _ _) (Nat.le_refl _) _)
          have RE : Rd evC 13 (X.alloc (Obj.cells #[.int .i64 3, .int .i64 0, .complex .f32 0 0, .complex .f32 0 0, .complex .f32 0 0, .complex .f32 0 0, .float .f32 0, .float .f32 0, .float .f32 0, .float .f32 0, .float .f32 1056964608, .float .f32 0, .float .f32 1048576000, .int .i64 e.k, .int .i64 e.n, .complex .f32 e.z.1 e.z.2, .complex .f32 e.s.1.1 e.s.1.2, .complex .f32 e.s.2.1.1 e.s.2.1.2, .complex .f32 e.s.2.2.1.1 e.s.2.2.1.2, .float .f32 e.s.2.2.2.1.1, .float .f32 e.s.2.2.2.1.2.1, .float .f32 e.s.2.2.2.1.2.2, .float .f32 e.s.2.2.2.2, .float .f32 e.c.1, .float .f32 e.c.2.1, .float .f32 e.c.2.2] 38)) (X.alloc (Obj.cells #[.int .i64 3, .int .i64 0, .complex .f32 0 0, .complex .f32 0 0, .complex .f32 0 0, .complex .f32 0 0, .float .f32 0, .float .f32 0, .float .f32 0, .float .f32 0, .float .f32 1056964608, .float .f32 0, .float .f32 1048576000, .int .i64 e.k, .int .i64 e.n, .complex .f32 e.z.1 e.z.2, .complex .f32 e.s.1.1 e.s.1.2, .complex .f32 e.s.2.1.1 e.s.2.1.2, .complex .f32 e.s.2.2.1.1 e.s.2.2.1.2, .float .f32 e.s.2.2.2.1.1, .float .f32 e.s.2.2.2.1.2.1, .float .f32 e.s.2.2.2.1.2.2, .float .f32 e.s.2.2.2.2, .float .f32 e.c.1, .float .f32 e.c.2.1, .float .f32 e.c.2.2] 38)).heap.size (some ⟨X.heap.size, 0, none⟩) 2 [.light colA, e] := rd_two X (.light colA) e 38
          replace own := own.below hal
          replace ca := ca.keep hal; replace fa := fa.keep hal la; replace la := ca.lt; replace cb := cb.keep hal; replace fb := fb.keep hal lb; replace lb := cb.lt; replace cl := cl.keep hal; replace fl := fl.keep hal ll; replace ll := cl.lt; replace hW := then_ hW hal
          obtain ⟨Y1, hY1e⟩ : ∃ Y1, Y1 = X.alloc (Obj.cells #[.int .i64 3, .int .i64 0, .complex .f32 0 0, .complex .f32 0 0, .complex .f32 0 0, .complex .f32 0 0, .float .f32 0, .float .f32 0, .float .f32 0, .float .f32 0, .float .f32 1056964608, .float .f32 0, .float .f32 1048576000, .int .i64 e.k, .int .i64 e.n, .complex .f32 e.z.1 e.z.2, .complex .f32 e.s.1.1 e.s.1.2, .complex .f32 e.s.2.1.1 e.s.2.1.2, .complex .f32 e.s.2.2.1.1 e.s.2.2.1.2, .float .f32 e.s.2.2.2.1.1, .float .f32 e.s.2.2.2.1.2.1, .float .f32 e.s.2.2.2.1.2.2, .float .f32 e.s.2.2.2.2, .float .f32 e.c.1, .float .f32 e.c.2.1, .float .f32 e.c.2.2] 38) := ⟨_, rfl⟩
          rw [← hY1e] at ca fa la cb fb lb cl fl ll hW own RE
          rw [← hY1e]
          clear hY1e hal
          have R := Lib.hid own.rd
          (with_reducible refine (KA.out _ _ R.out RE).mono ?_)
          rintro r wZ1 ⟨⟨A1, B1, L1, c1, d1, q1, rfl, own1⟩, hb5⟩
          clear R RE KA
          replace own := own.below hb5
          replace ca := ca.keep hb5; replace fa := fa.keep hb5 la; replace la := ca.lt; replace cb := cb.keep hb5; replace fb := fb.keep hb5 lb; replace lb := cb.lt; replace cl := cl.keep hb5; replace fl := fl.keep hb5 ll; replace ll := cl.lt; replace hW := then_ hW hb5
          clear hb5
          go_upto_region 9 with fail
          have cp := CA.new wZ1 #[.int .i64 t.sz, .float .f32 t.st, .float .f32 1056964608, .float .f32 0, .float .f32 1048576000, .slice A1 t.sh.length c1, .int .i64 t.mir, .complex .f32 t.gr.1 t.gr.2, .float .f32 t.loss, .slice B1 t.bs.length d1, .int .i64 t.tk, .slice L1 l1.length q1] 34; have fp := FA.new wZ1 #[.int .i64 t.sz, .float .f32 t.st, .float .f32 1056964608, .float .f32 0, .float .f32 1048576000, .slice A1 t.sh.length c1, .int .i64 t.mir, .complex .f32 t.gr.1 t.gr.2, .float .f32 t.loss, .slice B1 t.bs.length d1, .int .i64 t.tk, .slice L1 l1.length q1] 34; replace ca := ca.alloc (Obj.cells #[.int .i64 t.sz, .float .f32 t.st, .float .f32 1056964608, .float .f32 0, .float .f32 1048576000, .slice A1 t.sh.length c1, .int .i64 t.mir, .complex .f32 t.gr.1 t.gr.2, .float .f32 t.loss, .slice B1 t.bs.length d1, .int .i64 t.tk, .slice L1 l1.length q1] 34); replace fa := fa.alloc la (Obj.cells #[.int .i64 t.sz, .float .f32 t.st, .float .f32 1056964608, .float .f32 0, .float .f32 1048576000, .slice A1 t.sh.length c1, .int .i64 t.mir, .complex .f32 t.gr.1 t.gr.2, .float .f32 t.loss, .slice B1 t.bs.length d1, .int .i64 t.tk, .slice L1 l1.length q1] 34); replace cb := cb.alloc (Obj.cells #[.int .i64 t.sz, .float .f32 t.st, .float .f32 1056964608, .float .f32 0, .float .f32 1048576000, .slice A1 t.sh.length c1, .int .i64 t.mir, .complex .f32 t.gr.1 t.gr.2, .float .f32 t.loss, .slice B1 t.bs.length d1, .int .i64 t.tk, .slice L1 l1.length q1] 34); replace fb := fb.alloc lb (Obj.cells #[.int .i64 t.sz, .float .f32 t.st, .float .f32 1056964608, .float .f32 0, .float .f32 1048576000, .slice A1 t.sh.length c1, .int .i64 t.mir, .complex .f32 t.gr.1 t.gr.2, .float .f32 t.loss, .slice B1 t.bs.length d1, .int .i64 t.tk, .slice L1 l1.length q1] 34); replace cl := cl.alloc (Obj.cells #[.int .i64 t.sz, .float .f32 t.st, .float .f32 1056964608, .float .f32 0, .float .f32 1048576000, .slice A1 t.sh.length c1, .int .i64 t.mir, .complex .f32 t.gr.1 t.gr.2, .float .f32 t.loss, .slice B1 t.bs.length d1, .int .i64 t.tk, .slice L1 l1.length q1] 34); replace fl := fl.alloc ll (Obj.cells #[.int .i64 t.sz, .float .f32 t.st, .float .f32 1056964608, .float .f32 0, .float .f32 1048576000, .slice A1 t.sh.length c1, .int .i64 t.mir, .complex .f32 t.gr.1 t.gr.2, .float .f32 t.loss, .slice B1 t.bs.length d1, .int .i64 t.tk, .slice L1 l1.length q1] 34); replace hW := hW.alloc (hW.size) (Obj.cells #[.int .i64 t.sz, .float .f32 t.st, .float .f32 1056964608, .float .f32 0, .float .f32 1048576000, .slice A1 t.sh.length c1, .int .i64 t.mir, .complex .f32 t.gr.1 t.gr.2, .float .f32 t.loss, .slice B1 t.bs.length d1, .int .i64 t.tk, .slice L1 l1.length q1] 34); replace own := own.alloc (own.size) (Obj.cells #[.int .i64 t.sz, .float .f32 t.st, .float .f32 1056964608, .float .f32 0, .float .f32 1048576000, .slice A1 t.sh.length c1, .int .i64 t.mir, .complex .f32 t.gr.1 t.gr.2, .float .f32 t.loss, .slice B1 t.bs.length d1, .int .i64 t.tk, .slice L1 l1.length q1] 34); replace own1 := own1.alloc (own1.size) (Obj.cells #[.int .i64 t.sz, .float .f32 t.st, .float .f32 1056964608, .float .f32 0, .float .f32 1048576000, .slice A1 t.sh.length c1, .int .i64 t.mir, .complex .f32 t.gr.1 t.gr.2, .float .f32 t.loss, .slice B1 t.bs.length d1, .int .i64 t.tk, .slice L1 l1.length q1] 34); obtain ⟨Z1, hZ1e⟩ : ∃ Z1, Z1 = wZ1.alloc (Obj.cells #[.int .i64 t.sz, .float .f32 t.st, .float .f32 1056964608, .float .f32 0, .float .f32 1048576000, .slice A1 t.sh.length c1, .int .i64 t.mir, .complex .f32 t.gr.1 t.gr.2, .float .f32 t.loss, .slice B1 t.bs.length d1, .int .i64 t.tk, .slice L1 l1.length q1] 34) := ⟨_, rfl⟩; have zZ1 : Z1.heap.size = wZ1.heap.size + 1 := (by rw [hZ1e]; simp); rw [← hZ1e] at cp fp ca fa cb fb cl fl hW own own1; rw [← hZ1e]; clear hZ1e; have lp := cp.lt; replace la := ca.lt; replace lb := cb.lt; replace ll := cl.lt
          clear zZ1
          have a0 := ca 0 _ rfl; have a1 := ca 1 _ rfl; have a2 := ca 2 _ rfl; have a3 := ca 3 _ rfl; have a4 := ca 4 _ rfl; have a5 := ca 5 _ rfl; have a6 := ca 6 _ rfl; have a7 := ca 7 _ rfl; have a8 := ca 8 _ rfl; have a9 := ca 9 _ rfl; have a10 := ca 10 _ rfl; have a11 := ca 11 _ rfl
          have b0 := cb 0 _ rfl; have b1 := cb 1 _ rfl; have b2 := cb 2 _ rfl; have b3 := cb 3 _ rfl; have b4 := cb 4 _ rfl; have b5 := cb 5 _ rfl; have b6 := cb 6 _ rfl; have b7 := cb 7 _ rfl; have b8 := cb 8 _ rfl; have b9 := cb 9 _ rfl; have b10 := cb 10 _ rfl; have b11 := cb 11 _ rfl; have b12 := cb 12 _ rfl
          have l0 := cl 0 _ rfl; have l1 := cl 1 _ rfl; have l2 := cl 2 _ rfl; have l3 := cl 3 _ rfl; have l4 := cl 4 _ rfl; have l5 := cl 5 _ rfl; have l6 := cl 6 _ rfl; have l7 := cl 7 _ rfl; have l8 := cl 8 _ rfl; have l9 := cl 9 _ rfl; have l10 := cl 10 _ rfl; have l11 := cl 11 _ rfl; have l12 := cl 12 _ rfl
          go_wp2_with fail
          clear a0 a1 a2 a3 a4 a5 a6 a7 a8 a9 a10 a11 b0 b1 b2 b3 b4 b5 b6 b7 b8 b9 b10 b11 b12 l0 l1 l2 l3 l4 l5 l6 l7 l8 l9 l10 l11 l12
          have hal : Below Z1.heap.size Z1 (Z1.alloc (Obj.cells #[.int .i64 3, .int .i64 0, .complex .f32 0 0, .complex .f32 0 0, .complex .f32 0 0, .complex .f32 0 0, .float .f32 0, .float .f32 0, .float .f32 0, .float .f32 0, .float .f32 1056964608, .float .f32 0, .float .f32 1048576000, .int .i64 e.k, .int .i64 e.n, .complex .f32 e.z.1 e.z.2, .complex .f32 e.s.1.1 e.s.1.2, .complex .f32 e.s.2.1.1 e.s.2.1.2, .complex .f32 e.s.2.2.1.1 e.s.2.2.1.2, .float .f32 e.s.2.2.2.1.1, .float .f32 e.s.2.2.2.1.2.1, .float .f32 e.s.2.2.2.1.2.2, .float .f32 e.s.2.2.2.2, .float .f32 e.c.1, .float .f32 e.c.2.1, .float .f32 e.c.2.2] 38)) := by (with_reducible exact Below.alloc (Below.refl _ _) (Nat.le_refl _) _)
          have RE : Rd evC 13 (Z1.alloc (Obj.cells #[.int .i64 3, .int .i64 0, .complex .f32 0 0, .complex .f32 0 0, .complex .f32 0 0, .complex .f32 0 0, .float .f32 0, .float .f32 0, .float .f32 0, .float .f32 0, .float .f32 1056964608, .float .f32 0, .float .f32 1048576000, .int .i64 e.k, .int .i64 e.n, .complex .f32 e.z.1 e.z.2, .complex .f32 e.s.1.1 e.s.1.2, .complex .f32 e.s.2.1.1 e.s.2.1.2, .complex .f32 e.s.2.2.1.1 e.s.2.2.1.2, .float .f32 e.s.2.2.2.1.1, .float .f32 e.s.2.2.2.1.2.1, .float .f32 e.s.2.2.2.1.2.2, .float .f32 e.s.2.2.2.2, .float .f32 e.c.1, .float .f32 e.c.2.1, .float .f32 e.c.2.2] 38)) (Z1.alloc (Obj.cells #[.int .i64 3, .int .i64 0, .complex .f32 0 0, .complex .f32 0 0, .complex .f32 0 0, .complex .f32 0 0, .float .f32 0, .float .f32 0, .float .f32 0, .float .f32 0, .float .f32 1056964608, .float .f32 0, .float .f32 1048576000, .int .i64 e.k, .int .i64 e.n, .complex .f32 e.z.1 e.z.2, .complex .f32 e.s.1.1 e.s.1.2, .complex .f32 e.s.2.1.1 e.s.2.1.2, .complex .f32 e.s.2.2.1.1 e.s.2.2.1.2, .float .f32 e.s.2.2.2.1.1, .float .f32 e.s.2.2.2.1.2.1, .float .f32 e.s.2.2.2.1.2.2, .float .f32 e.s.2.2.2.2, .float .f32 e.c.1, .float .f32 e.c.2.1, .float .f32 e.c.2.2] 38)).heap.size (some ⟨Z1.heap.size, 0, none⟩) 2 [.light colA, e] := rd_two Z1 (.light colA) e 38
          replace own := own.below hal
          replace own1 := own1.below hal
          replace ca := ca.keep hal; replace fa := fa.keep hal la; replace la := ca.lt; replace cb := cb.keep hal; replace fb := fb.keep hal lb; replace lb := cb.lt; replace cl := cl.keep hal; replace fl := fl.keep hal ll; replace ll := cl.lt; replace cp := cp.keep hal; replace fp := fp.keep hal lp; replace lp := cp.lt; replace hW := then_ hW hal
          obtain ⟨Y2, hY2e⟩ : ∃ Y2, Y2 = Z1.alloc (Obj.cells #[.int .i64 3, .int .i64 0, .complex .f32 0 0, .complex .f32 0 0, .complex .f32 0 0, .complex .f32 0 0, .float .f32 0, .float .f32 0, .float .f32 0, .float .f32 0, .float .f32 1056964608, .float .f32 0, .float .f32 1048576000, .int .i64 e.k, .int .i64 e.n, .complex .f32 e.z.1 e.z.2, .complex .f32 e.s.1.1 e.s.1.2, .complex .f32 e.s.2.1.1 e.s.2.1.2, .complex .f32 e.s.2.2.1.1 e.s.2.2.1.2, .float .f32 e.s.2.2.2.1.1, .float .f32 e.s.2.2.2.1.2.1, .float .f32 e.s.2.2.2.1.2.2, .float .f32 e.s.2.2.2.2, .float .f32 e.c.1, .float .f32 e.c.2.1, .float .f32 e.c.2.2] 38) := ⟨_, rfl⟩
          rw [← hY2e] at ca fa la cb fb lb cl fl ll cp fp lp hW own RE own1
          rw [← hY2e]
          clear hY2e hal
          have R := Lib.hid own.rd
          (with_reducible refine (KS.out _ _ R.out RE).mono ?_)
          rintro r wZ2 ⟨⟨A2, B2, L2, c2, d2, q2, rfl, own2⟩, hb5⟩
          clear R RE KS
          replace own := own.below hb5
          replace own1 := own1.below hb5
          replace ca := ca.keep hb5; replace fa := fa.keep hb5 la; replace la := ca.lt; replace cb := cb.keep hb5; replace fb := fb.keep hb5 lb; replace lb := cb.lt; replace cl := cl.keep hb5; replace fl := fl.keep hb5 ll; replace ll := cl.lt; replace cp := cp.keep hb5; replace fp := fp.keep hb5 lp; replace lp := cp.lt; replace hW := then_ hW hb5
          clear hb5
          go_upto_region 10 with fail
          have cz := CA.new wZ2 #[.int .i64 t.sz, .float .f32 t.st, .float .f32 1056964608, .float .f32 0, .float .f32 1048576000, .slice A2 t.sh.length c2, .int .i64 t.mir, .complex .f32 t.gr.1 t.gr.2, .float .f32 t.loss, .slice B2 t.bs.length d2, .int .i64 t.tk, .slice L2 l1.length q2] 34; have fz := FA.new wZ2 #[.int .i64 t.sz, .float .f32 t.st, .float .f32 1056964608, .float .f32 0, .float .f32 1048576000, .slice A2 t.sh.length c2, .int .i64 t.mir, .complex .f32 t.gr.1 t.gr.2, .float .f32 t.loss, .slice B2 t.bs.length d2, .int .i64 t.tk, .slice L2 l1.length q2] 34; replace ca := ca.alloc (Obj.cells #[.int .i64 t.sz, .float .f32 t.st, .float .f32 1056964608, .float .f32 0, .float .f32 1048576000, .slice A2 t.sh.length c2, .int .i64 t.mir, .complex .f32 t.gr.1 t.gr.2, .float .f32 t.loss, .slice B2 t.bs.length d2, .int .i64 t.tk, .slice L2 l1.length q2] 34); replace fa := fa.alloc la (Obj.cells #[.int .i64 t.sz, .float .f32 t.st, .float .f32 1056964608, .float .f32 0, .float .f32 1048576000, .slice A2 t.sh.length c2, .int .i64 t.mir, .complex .f32 t.gr.1 t.gr.2, .float .f32 t.loss, .slice B2 t.bs.length d2, .int .i64 t.tk, .slice L2 l1.length q2] 34); replace cb := cb.alloc (Obj.cells #[.int .i64 t.sz, .float .f32 t.st, .float .f32 1056964608, .float .f32 0, .float .f32 1048576000, .slice A2 t.sh.length c2, .int .i64 t.mir, .complex .f32 t.gr.1 t.gr.2, .float .f32 t.loss, .slice B2 t.bs.length d2, .int .i64 t.tk, .slice L2 l1.length q2] 34); replace fb := fb.alloc lb (Obj.cells #[.int .i64 t.sz, .float .f32 t.st, .float .f32 1056964608, .float .f32 0, .float .f32 1048576000, .slice A2 t.sh.length c2, .int .i64 t.mir, .complex .f32 t.gr.1 t.gr.2, .float .f32 t.loss, .slice B2 t.bs.length d2, .int .i64 t.tk, .slice L2 l1.length q2] 34); replace cl := cl.alloc (Obj.cells #[.int .i64 t.sz, .float .f32 t.st, .float .f32 1056964608, .float .f32 0, .float .f32 1048576000, .slice A2 t.sh.length c2, .int .i64 t.mir, .complex .f32 t.gr.1 t.gr.2, .float .f32 t.loss, .slice B2 t.bs.length d2, .int .i64 t.tk, .slice L2 l1.length q2] 34); replace fl := fl.alloc ll (Obj.cells #[.int .i64 t.sz, .float .f32 t.st, .float .f32 1056964608, .float .f32 0, .float .f32 1048576000, .slice A2 t.sh.length c2, .int .i64 t.mir, .complex .f32 t.gr.1 t.gr.2, .float .f32 t.loss, .slice B2 t.bs.length d2, .int .i64 t.tk, .slice L2 l1.length q2] 34); replace cp := cp.alloc (Obj.cells #[.int .i64 t.sz, .float .f32 t.st, .float .f32 1056964608, .float .f32 0, .float .f32 1048576000, .slice A2 t.sh.length c2, .int .i64 t.mir, .complex .f32 t.gr.1 t.gr.2, .float .f32 t.loss, .slice B2 t.bs.length d2, .int .i64 t.tk, .slice L2 l1.length q2] 34); replace fp := fp.alloc lp (Obj.cells #[.int .i64 t.sz, .float .f32 t.st, .float .f32 1056964608, .float .f32 0, .float .f32 1048576000, .slice A2 t.sh.length c2, .int .i64 t.mir, .complex .f32 t.gr.1 t.gr.2, .float .f32 t.loss, .slice B2 t.bs.length d2, .int .i64 t.tk, .slice L2 l1.length q2] 34); replace hW := hW.alloc (hW.size) (Obj.cells #[.int .i64 t.sz, .float .f32 t.st, .float .f32 1056964608, .float .f32 0, .float .f32 1048576000, .slice A2 t.sh.length c2, .int .i64 t.mir, .complex .f32 t.gr.1 t.gr.2, .float .f32 t.loss, .slice B2 t.bs.length d2, .int .i64 t.tk, .slice L2 l1.length q2] 34); replace own := own.alloc (own.size) (Obj.cells #[.int .i64 t.sz, .float .f32 t.st, .float .f32 1056964608, .float .f32 0, .float .f32 1048576000, .slice A2 t.sh.length c2, .int .i64 t.mir, .complex .f32 t.gr.1 t.gr.2, .float .f32 t.loss, .slice B2 t.bs.length d2, .int .i64 t.tk, .slice L2 l1.length q2] 34); replace own1 := own1.alloc (own1.size) (Obj.cells #[.int .i64 t.sz, .float .f32 t.st, .float .f32 1056964608, .float .f32 0, .float .f32 1048576000, .slice A2 t.sh.length c2, .int .i64 t.mir, .complex .f32 t.gr.1 t.gr.2, .float .f32 t.loss, .slice B2 t.bs.length d2, .int .i64 t.tk, .slice L2 l1.length q2] 34); obtain ⟨Z2, hZ2e⟩ : ∃ Z2, Z2 = wZ2.alloc (Obj.cells #[.int .i64 t.sz, .float .f32 t.st, .float .f32 1056964608, .float .f32 0, .float .f32 1048576000, .slice A2 t.sh.length c2, .int .i64 t.mir, .complex .f32 t.gr.1 t.gr.2, .float .f32 t.loss, .slice B2 t.bs.length d2, .int .i64 t.tk, .slice L2 l1.length q2] 34) := ⟨_, rfl⟩; have zZ2 : Z2.heap.size = wZ2.heap.size + 1 := (by rw [hZ2e]; simp); rw [← hZ2e] at cz fz ca fa cb fb cl fl cp fp hW own own1; rw [← hZ2e]; clear hZ2e; have lz := cz.lt; replace la := ca.lt; replace lb := cb.lt; replace ll := cl.lt; replace lp := cp.lt
          clear zZ2
          clear cz fz lz own2
          have a0 := ca 0 _ rfl; have a1 := ca 1 _ rfl; have a2 := ca 2 _ rfl; have a3 := ca 3 _ rfl; have a4 := ca 4 _ rfl; have a5 := ca 5 _ rfl; have a6 := ca 6 _ rfl; have a7 := ca 7 _ rfl; have a8 := ca 8 _ rfl; have a9 := ca 9 _ rfl; have a10 := ca 10 _ rfl; have a11 := ca 11 _ rfl
          have b0 := cb 0 _ rfl; have b1 := cb 1 _ rfl; have b2 := cb 2 _ rfl; have b3 := cb 3 _ rfl; have b4 := cb 4 _ rfl; have b5 := cb 5 _ rfl; have b6 := cb 6 _ rfl; have b7 := cb 7 _ rfl; have b8 := cb 8 _ rfl; have b9 := cb 9 _ rfl; have b10 := cb 10 _ rfl; have b11 := cb 11 _ rfl; have b12 := cb 12 _ rfl
          have l0 := cl 0 _ rfl; have l1 := cl 1 _ rfl; have l2 := cl 2 _ rfl; have l3 := cl 3 _ rfl; have l4 := cl 4 _ rfl; have l5 := cl 5 _ rfl; have l6 := cl 6 _ rfl; have l7 := cl 7 _ rfl; have l8 := cl 8 _ rfl; have l9 := cl 9 _ rfl; have l10 := cl 10 _ rfl; have l11 := cl 11 _ rfl; have l12 := cl 12 _ rfl
          go_wp2_with fail
          clear a0 a1 a2 a3 a4 a5 a6 a7 a8 a9 a10 a11 b0 b1 b2 b3 b4 b5 b6 b7 b8 b9 b10 b11 b12 l0 l1 l2 l3 l4 l5 l6 l7 l8 l9 l10 l11 l12
          have hal : Below Z2.heap.size Z2 (Z2.alloc (Obj.cells #[.int .i64 e.k, .int .i64 e.n, .complex .f32 e.z.1 e.z.2, .complex .f32 e.s.1.1 e.s.1.2, .complex .f32 e.s.2.1.1 e.s.2.1.2, .complex .f32 e.s.2.2.1.1 e.s.2.2.1.2, .float .f32 e.s.2.2.2.1.1, .float .f32 e.s.2.2.2.1.2.1, .float .f32 e.s.2.2.2.1.2.2, .float .f32 e.s.2.2.2.2, .float .f32 e.c.1, .float .f32 e.c.2.1, .float .f32 e.c.2.2, .int .i64 3, .int .i64 0, .complex .f32 0 0, .complex .f32 0 0, .complex .f32 0 0, .complex .f32 0 0, .float .f32 0, .float .f32 0, .float .f32 0, .float .f32 0, .float .f32 1056964608, .float .f32 0, .float .f32 1048576000] 38)) := by (with_reducible exact Below.alloc (Below.refl _ _) (Nat.le_refl _) _)
          have RE : Rd evC 13 (Z2.alloc (Obj.cells #[.int .i64 e.k, .int .i64 e.n, .complex .f32 e.z.1 e.z.2, .complex .f32 e.s.1.1 e.s.1.2, .complex .f32 e.s.2.1.1 e.s.2.1.2, .complex .f32 e.s.2.2.1.1 e.s.2.2.1.2, .float .f32 e.s.2.2.2.1.1, .float .f32 e.s.2.2.2.1.2.1, .float .f32 e.s.2.2.2.1.2.2, .float .f32 e.s.2.2.2.2, .float .f32 e.c.1, .float .f32 e.c.2.1, .float .f32 e.c.2.2, .int .i64 3, .int .i64 0, .complex .f32 0 0, .complex .f32 0 0, .complex .f32 0 0, .complex .f32 0 0, .float .f32 0, .float .f32 0, .float .f32 0, .float .f32 0, .float .f32 1056964608, .float .f32 0, .float .f32 1048576000] 38)) (Z2.alloc (Obj.cells #[.int .i64 e.k, .int .i64 e.n, .complex .f32 e.z.1 e.z.2, .complex .f32 e.s.1.1 e.s.1.2, .complex .f32 e.s.2.1.1 e.s.2.1.2, .complex .f32 e.s.2.2.1.1 e.s.2.2.1.2, .float .f32 e.s.2.2.2.1.1, .float .f32 e.s.2.2.2.1.2.1, .float .f32 e.s.2.2.2.1.2.2, .float .f32 e.s.2.2.2.2, .float .f32 e.c.1, .float .f32 e.c.2.1, .float .f32 e.c.2.2, .int .i64 3, .int .i64 0, .complex .f32 0 0, .complex .f32 0 0, .complex .f32 0 0, .complex .f32 0 0, .float .f32 0, .float .f32 0, .float .f32 0, .float .f32 0, .float .f32 1056964608, .float .f32 0, .float .f32 1048576000] 38)).heap.size (some ⟨Z2.heap.size, 0, none⟩) 2 [e, .light colA] := rd_two Z2 e (.light colA) 38
          replace own := own.below hal
          replace own1 := own1.below hal
          replace ca := ca.keep hal; replace fa := fa.keep hal la; replace la := ca.lt; replace cb := cb.keep hal; replace fb := fb.keep hal lb; replace lb := cb.lt; replace cl := cl.keep hal; replace fl := fl.keep hal ll; replace ll := cl.lt; replace cp := cp.keep hal; replace fp := fp.keep hal lp; replace lp := cp.lt; replace hW := then_ hW hal
          obtain ⟨Y3, hY3e⟩ : ∃ Y3, Y3 = Z2.alloc (Obj.cells #[.int .i64 e.k, .int .i64 e.n, .complex .f32 e.z.1 e.z.2, .complex .f32 e.s.1.1 e.s.1.2, .complex .f32 e.s.2.1.1 e.s.2.1.2, .complex .f32 e.s.2.2.1.1 e.s.2.2.1.2, .float .f32 e.s.2.2.2.1.1, .float .f32 e.s.2.2.2.1.2.1, .float .f32 e.s.2.2.2.1.2.2, .float .f32 e.s.2.2.2.2, .float .f32 e.c.1, .float .f32 e.c.2.1, .float .f32 e.c.2.2, .int .i64 3, .int .i64 0, .complex .f32 0 0, .complex .f32 0 0, .complex .f32 0 0, .complex .f32 0 0, .float .f32 0, .float .f32 0, .float .f32 0, .float .f32 0, .float .f32 1056964608, .float .f32 0, .float .f32 1048576000] 38) := ⟨_, rfl⟩
          rw [← hY3e] at ca fa la cb fb lb cl fl ll cp fp lp hW own RE own1
          rw [← hY3e]
          clear hY3e hal
          have R := Lib.hid own.rd
          (with_reducible refine (KB.out _ _ R.out RE).mono ?_)
          rintro r wZ3 ⟨⟨A3, B3, L3, c3, d3, q3, rfl, own3⟩, hb5⟩
          clear R RE KB
          replace own := own.below hb5
          replace own1 := own1.below hb5
          replace ca := ca.keep hb5; replace fa := fa.keep hb5 la; replace la := ca.lt; replace cb := cb.keep hb5; replace fb := fb.keep hb5 lb; replace lb := cb.lt; replace cl := cl.keep hb5; replace fl := fl.keep hb5 ll; replace ll := cl.lt; replace cp := cp.keep hb5; replace fp := fp.keep hb5 lp; replace lp := cp.lt; replace hW := then_ hW hb5
          clear hb5
          go_upto_region 13 with fail
          have cr := CA.new wZ3 #[.int .i64 t.sz, .float .f32 t.st, .float .f32 1056964608, .float .f32 0, .float .f32 1048576000, .slice A3 t.sh.length c3, .int .i64 t.mir, .complex .f32 t.gr.1 t.gr.2, .float .f32 t.loss, .slice B3 t.bs.length d3, .int .i64 t.tk, .slice L3 l2.length q3] 34; have fr := FA.new wZ3 #[.int .i64 t.sz, .float .f32 t.st, .float .f32 1056964608, .float .f32 0, .float .f32 1048576000, .slice A3 t.sh.length c3, .int .i64 t.mir, .complex .f32 t.gr.1 t.gr.2, .float .f32 t.loss, .slice B3 t.bs.length d3, .int .i64 t.tk, .slice L3 l2.length q3] 34; replace ca := ca.alloc (Obj.cells #[.int .i64 t.sz, .float .f32 t.st, .float .f32 1056964608, .float .f32 0, .float .f32 1048576000, .slice A3 t.sh.length c3, .int .i64 t.mir, .complex .f32 t.gr.1 t.gr.2, .float .f32 t.loss, .slice B3 t.bs.length d3, .int .i64 t.tk, .slice L3 l2.length q3] 34); replace fa := fa.alloc la (Obj.cells #[.int .i64 t.sz, .float .f32 t.st, .float .f32 1056964608, .float .f32 0, .float .f32 1048576000, .slice A3 t.sh.length c3, .int .i64 t.mir, .complex .f32 t.gr.1 t.gr.2, .float .f32 t.loss, .slice B3 t.bs.length d3, .int .i64 t.tk, .slice L3 l2.length q3] 34); replace cb := cb.alloc (Obj.cells #[.int .i64 t.sz, .float .f32 t.st, .float .f32 1056964608, .float .f32 0, .float .f32 1048576000, .slice A3 t.sh.length c3, .int .i64 t.mir, .complex .f32 t.gr.1 t.gr.2, .float .f32 t.loss, .slice B3 t.bs.length d3, .int .i64 t.tk, .slice L3 l2.length q3] 34); replace fb := fb.alloc lb (Obj.cells #[.int .i64 t.sz, .float .f32 t.st, .float .f32 1056964608, .float .f32 0, .float .f32 1048576000, .slice A3 t.sh.length c3, .int .i64 t.mir, .complex .f32 t.gr.1 t.gr.2, .float .f32 t.loss, .slice B3 t.bs.length d3, .int .i64 t.tk, .slice L3 l2.length q3] 34); replace cl := cl.alloc (Obj.cells #[.int .i64 t.sz, .float .f32 t.st, .float .f32 1056964608, .float .f32 0, .float .f32 1048576000, .slice A3 t.sh.length c3, .int .i64 t.mir, .complex .f32 t.gr.1 t.gr.2, .float .f32 t.loss, .slice B3 t.bs.length d3, .int .i64 t.tk, .slice L3 l2.length q3] 34); replace fl := fl.alloc ll (Obj.cells #[.int .i64 t.sz, .float .f32 t.st, .float .f32 1056964608, .float .f32 0, .float .f32 1048576000, .slice A3 t.sh.length c3, .int .i64 t.mir, .complex .f32 t.gr.1 t.gr.2, .float .f32 t.loss, .slice B3 t.bs.length d3, .int .i64 t.tk, .slice L3 l2.length q3] 34); replace cp := cp.alloc (Obj.cells #[.int .i64 t.sz, .float .f32 t.st, .float .f32 1056964608, .float .f32 0, .float .f32 1048576000, .slice A3 t.sh.length c3, .int .i64 t.mir, .complex .f32 t.gr.1 t.gr.2, .float .f32 t.loss, .slice B3 t.bs.length d3, .int .i64 t.tk, .slice L3 l2.length q3] 34); replace fp := fp.alloc lp (Obj.cells #[.int .i64 t.sz, .float .f32 t.st, .float .f32 1056964608, .float .f32 0, .float .f32 1048576000, .slice A3 t.sh.length c3, .int .i64 t.mir, .complex .f32 t.gr.1 t.gr.2, .float .f32 t.loss, .slice B3 t.bs.length d3, .int .i64 t.tk, .slice L3 l2.length q3] 34); replace hW := hW.alloc (hW.size) (Obj.cells #[.int .i64 t.sz, .float .f32 t.st, .float .f32 1056964608, .float .f32 0, .float .f32 1048576000, .slice A3 t.sh.length c3, .int .i64 t.mir, .complex .f32 t.gr.1 t.gr.2, .float .f32 t.loss, .slice B3 t.bs.length d3, .int .i64 t.tk, .slice L3 l2.length q3] 34); replace own := own.alloc (own.size) (Obj.cells #[.int .i64 t.sz, .float .f32 t.st, .float .f32 1056964608, .float .f32 0, .float .f32 1048576000, .slice A3 t.sh.length c3, .int .i64 t.mir, .complex .f32 t.gr.1 t.gr.2, .float .f32 t.loss, .slice B3 t.bs.length d3, .int .i64 t.tk, .slice L3 l2.length q3] 34); replace own3 := own3.alloc (own3.size) (Obj.cells #[.int .i64 t.sz, .float .f32 t.st, .float .f32 1056964608, .float .f32 0, .float .f32 1048576000, .slice A3 t.sh.length c3, .int .i64 t.mir, .complex .f32 t.gr.1 t.gr.2, .float .f32 t.loss, .slice B3 t.bs.length d3, .int .i64 t.tk, .slice L3 l2.length q3] 34); replace own1 := own1.alloc (own1.size) (Obj.cells #[.int .i64 t.sz, .float .f32 t.st, .float .f32 1056964608, .float .f32 0, .float .f32 1048576000, .slice A3 t.sh.length c3, .int .i64 t.mir, .complex .f32 t.gr.1 t.gr.2, .float .f32 t.loss, .slice B3 t.bs.length d3, .int .i64 t.tk, .slice L3 l2.length q3] 34); obtain ⟨Z3, hZ3e⟩ : ∃ Z3, Z3 = wZ3.alloc (Obj.cells #[.int .i64 t.sz, .float .f32 t.st, .float .f32 1056964608, .float .f32 0, .float .f32 1048576000, .slice A3 t.sh.length c3, .int .i64 t.mir, .complex .f32 t.gr.1 t.gr.2, .float .f32 t.loss, .slice B3 t.bs.length d3, .int .i64 t.tk, .slice L3 l2.length q3] 34) := ⟨_, rfl⟩; have zZ3 : Z3.heap.size = wZ3.heap.size + 1 := (by rw [hZ3e]; simp); rw [← hZ3e] at cr fr ca fa cb fb cl fl cp fp hW own own3 own1; rw [← hZ3e]; clear hZ3e; have lr := cr.lt; replace la := ca.lt; replace lb := cb.lt; replace ll := cl.lt; replace lp := cp.lt
          clear zZ3
          clear ca fa la cb fb lb cl fl ll own
          obtain ⟨N, hN⟩ : ∃ N : Nat, t.sz * t.sz = (N : Int) := ⟨(t.sz * t.sz).toNat, by have := inB_true ga.sz; have : (0 : Int) ≤ t.sz * t.sz := Int.mul_nonneg (by show (0 : Int) ≤ t.sz; have := (inB_true ga.sz).1; exact (by omega : (0 : Int) ≤ (withL colA l1 t).sz)) (by show (0 : Int) ≤ t.sz; have := (inB_true ga.sz).1; exact (by omega : (0 : Int) ≤ (withL colA l1 t).sz)); omega⟩
          obtain ⟨xs, hxs⟩ : ∃ xs, xs = takeUp t.mir t.sz t.st (glassUp t.sh t.bs t.sh.length) colA N := ⟨_, rfl⟩
          have hN64 : N ≤ maxLen := by
            obtain ⟨s1, s2⟩ := inB_true ga.sz
            have s1' : 1 ≤ t.sz := s1
            have s2' : t.sz ≤ 8 := s2
            have : t.sz * t.sz ≤ 8 * 8 := Int.mul_le_mul s2' s2' (by omega) (by omega)
            unfold maxLen; omega
          have hcol : xs.all colB = true := by rw [hxs]; exact seen_good (s := withL colA l1 t) ga hN
          have K1 := Lib.hid (fun w h => (show Calls Tryz.prog 11 #[.agg #[.int .i64 t.sz, .float .f32 t.st, .float .f32 1056964608, .float .f32 0, .float .f32 1048576000, .slice A1 t.sh.length c1, .int .i64 t.mir, .complex .f32 t.gr.1 t.gr.2, .float .f32 t.loss, .slice B1 t.bs.length d1, .int .i64 t.tk, .slice L1 l1.length q1]] w (fun r w' => (∃ A c, r = .returned (.tuple #[.agg #[.int .i64 t.sz, .slice A N c], .bool true]) ∧ w'.ownsRow w.heap.size 26 3 (.slice A N c) N (flat colC (takeUp t.mir t.sz t.st (glassUp t.sh t.bs t.sh.length) colA N))) ∧ Below w.heap.size w w') from seenIn_any (withL colA l1 t) A1 B1 L1 c1 d1 q1 N w ga ka hN h))
          have K2 := Lib.hid (fun w h => (show Calls Tryz.prog 11 #[.agg #[.int .i64 t.sz, .float .f32 t.st, .float .f32 1056964608, .float .f32 0, .float .f32 1048576000, .slice A3 t.sh.length c3, .int .i64 t.mir, .complex .f32 t.gr.1 t.gr.2, .float .f32 t.loss, .slice B3 t.bs.length d3, .int .i64 t.tk, .slice L3 l2.length q3]] w (fun r w' => (∃ A c, r = .returned (.tuple #[.agg #[.int .i64 t.sz, .slice A N c], .bool true]) ∧ w'.ownsRow w.heap.size 26 3 (.slice A N c) N (flat colC (takeUp t.mir t.sz t.st (glassUp t.sh t.bs t.sh.length) colA N))) ∧ Below w.heap.size w w') from seenIn_any (withL colA l2 t) A3 B3 L3 c3 d3 q3 N w gb kb hN h))
          have K3 := Lib.hid (fun B2 d2 B4 d4 w h1 h2 => (show Calls Tryz.prog 24 #[.agg #[.int .i64 t.mir, .complex .f32 t.gr.1 t.gr.2, .float .f32 t.loss, .slice B2 t.bs.length d2], .agg #[.int .i64 t.mir, .complex .f32 t.gr.1 t.gr.2, .float .f32 t.loss, .slice B4 t.bs.length d4]] w (fun e w' => e = .returned (.bool true) ∧ Below w.heap.size w w') from sameTumble_self (withL colA l1 t) B2 B4 d2 d4 w ga (okS_parts.1 ka).1 h1 h2))
          rw [← hxs] at K1 K2
          have K4 := Lib.hid (fun A B c d w h1 h2 => samePicture_any A B t.sz t.sz N N c d xs xs w hN64 hN64 h1 h2)
          rw [sameP_self hcol] at K4
          have LX := Lib.hid (show xs.length = N by rw [hxs]; exact takeUp_len _ _ _ _ _ _)
          clear hxs hcol hN hN64 ga ka gb kb ha hb hg hk he3
          have p0 := cp 0 _ rfl; have p1 := cp 1 _ rfl; have p2 := cp 2 _ rfl; have p3 := cp 3 _ rfl; have p4 := cp 4 _ rfl; have p5 := cp 5 _ rfl; have p6 := cp 6 _ rfl; have p7 := cp 7 _ rfl; have p8 := cp 8 _ rfl; have p9 := cp 9 _ rfl; have p10 := cp 10 _ rfl; have p11 := cp 11 _ rfl
          have R := Lib.hid own1.rd
          go_wp2_with fail
          (with_reducible refine (K1.out _ R.out).mono ?_)
          rintro r w7 ⟨⟨A5, c5, rfl, o5⟩, hb5⟩
          have rP := Rd.of_own colC_len LX.out o5
          clear p0 p1 p2 p3 p4 p5 p6 p7 p8 p9 p10 p11 R K1 o5
          replace own1 := own1.below hb5
          replace own3 := own3.below hb5
          replace cp := cp.keep hb5; replace fp := fp.keep hb5 lp; replace lp := cp.lt; replace cr := cr.keep hb5; replace fr := fr.keep hb5 lr; replace lr := cr.lt; replace hW := then_ hW hb5
          clear hb5
          go_upto_region 16 with fail
          have cu := CA.new w7 #[.int .i64 t.sz, .slice A5 N c5] 47; have fu := FA.new w7 #[.int .i64 t.sz, .slice A5 N c5] 47; replace cp := cp.alloc (Obj.cells #[.int .i64 t.sz, .slice A5 N c5] 47); replace fp := fp.alloc lp (Obj.cells #[.int .i64 t.sz, .slice A5 N c5] 47); replace cr := cr.alloc (Obj.cells #[.int .i64 t.sz, .slice A5 N c5] 47); replace fr := fr.alloc lr (Obj.cells #[.int .i64 t.sz, .slice A5 N c5] 47); replace hW := hW.alloc (hW.size) (Obj.cells #[.int .i64 t.sz, .slice A5 N c5] 47); replace own1 := own1.alloc (own1.size) (Obj.cells #[.int .i64 t.sz, .slice A5 N c5] 47); replace own3 := own3.alloc (own3.size) (Obj.cells #[.int .i64 t.sz, .slice A5 N c5] 47); replace rP := rP.alloc (rP.size) (Obj.cells #[.int .i64 t.sz, .slice A5 N c5] 47); obtain ⟨Z5, hZ5e⟩ : ∃ Z5, Z5 = w7.alloc (Obj.cells #[.int .i64 t.sz, .slice A5 N c5] 47) := ⟨_, rfl⟩; have zZ5 : Z5.heap.size = w7.heap.size + 1 := (by rw [hZ5e]; simp); rw [← hZ5e] at cu fu cp fp cr fr hW own1 own3 rP; rw [← hZ5e]; clear hZ5e; have lu := cu.lt; replace lp := cp.lt; replace lr := cr.lt
          clear zZ5
          have r0 := cr 0 _ rfl; have r1 := cr 1 _ rfl; have r2 := cr 2 _ rfl; have r3 := cr 3 _ rfl; have r4 := cr 4 _ rfl; have r5 := cr 5 _ rfl; have r6 := cr 6 _ rfl; have r7 := cr 7 _ rfl; have r8 := cr 8 _ rfl; have r9 := cr 9 _ rfl; have r10 := cr 10 _ rfl; have r11 := cr 11 _ rfl
          have R := Lib.hid own3.rd
          go_wp2_with fail
          (with_reducible refine (K2.out _ R.out).mono ?_)
          rintro r w8 ⟨⟨A6, c6, rfl, o6⟩, hb5⟩
          have rQ := Rd.of_own colC_len LX.out o6
          clear r0 r1 r2 r3 r4 r5 r6 r7 r8 r9 r10 r11 R K2 o6
          replace own1 := own1.below hb5
          replace own3 := own3.below hb5
          replace rP := rP.step hb5
          replace cp := cp.keep hb5; replace fp := fp.keep hb5 lp; replace lp := cp.lt; replace cr := cr.keep hb5; replace fr := fr.keep hb5 lr; replace lr := cr.lt; replace cu := cu.keep hb5; replace fu := fu.keep hb5 lu; replace lu := cu.lt; replace hW := then_ hW hb5
          clear hb5
          go_upto_region 17 with fail
          have cv := CA.new w8 #[.int .i64 t.sz, .slice A6 N c6] 47; have fv := FA.new w8 #[.int .i64 t.sz, .slice A6 N c6] 47; replace cp := cp.alloc (Obj.cells #[.int .i64 t.sz, .slice A6 N c6] 47); replace fp := fp.alloc lp (Obj.cells #[.int .i64 t.sz, .slice A6 N c6] 47); replace cr := cr.alloc (Obj.cells #[.int .i64 t.sz, .slice A6 N c6] 47); replace fr := fr.alloc lr (Obj.cells #[.int .i64 t.sz, .slice A6 N c6] 47); replace cu := cu.alloc (Obj.cells #[.int .i64 t.sz, .slice A6 N c6] 47); replace fu := fu.alloc lu (Obj.cells #[.int .i64 t.sz, .slice A6 N c6] 47); replace hW := hW.alloc (hW.size) (Obj.cells #[.int .i64 t.sz, .slice A6 N c6] 47); replace own1 := own1.alloc (own1.size) (Obj.cells #[.int .i64 t.sz, .slice A6 N c6] 47); replace own3 := own3.alloc (own3.size) (Obj.cells #[.int .i64 t.sz, .slice A6 N c6] 47); replace rP := rP.alloc (rP.size) (Obj.cells #[.int .i64 t.sz, .slice A6 N c6] 47); replace rQ := rQ.alloc (rQ.size) (Obj.cells #[.int .i64 t.sz, .slice A6 N c6] 47); obtain ⟨Z6, hZ6e⟩ : ∃ Z6, Z6 = w8.alloc (Obj.cells #[.int .i64 t.sz, .slice A6 N c6] 47) := ⟨_, rfl⟩; have zZ6 : Z6.heap.size = w8.heap.size + 1 := (by rw [hZ6e]; simp); rw [← hZ6e] at cv fv cp fp cr fr cu fu hW own1 own3 rP rQ; rw [← hZ6e]; clear hZ6e; have lv := cv.lt; replace lp := cp.lt; replace lr := cr.lt; replace lu := cu.lt
          clear zZ6
          have p0 := cp 0 _ rfl; have p1 := cp 1 _ rfl; have p2 := cp 2 _ rfl; have p3 := cp 3 _ rfl; have p4 := cp 4 _ rfl; have p5 := cp 5 _ rfl; have p6 := cp 6 _ rfl; have p7 := cp 7 _ rfl; have p8 := cp 8 _ rfl; have p9 := cp 9 _ rfl; have p10 := cp 10 _ rfl; have p11 := cp 11 _ rfl
          have r0 := cr 0 _ rfl; have r1 := cr 1 _ rfl; have r2 := cr 2 _ rfl; have r3 := cr 3 _ rfl; have r4 := cr 4 _ rfl; have r5 := cr 5 _ rfl; have r6 := cr 6 _ rfl; have r7 := cr 7 _ rfl; have r8 := cr 8 _ rfl; have r9 := cr 9 _ rfl; have r10 := cr 10 _ rfl; have r11 := cr 11 _ rfl
          have u0 := cu 0 _ rfl; have u1 := cu 1 _ rfl
          have v0 := cv 0 _ rfl; have v1 := cv 1 _ rfl
          have RP := Lib.hid rP
          have RQ := Lib.hid rQ
          clear rP rQ
          go_wp2_with fail
          (with_reducible refine (K4.out _ _ _ _ _ RP.out RQ.out).mono ?_)
          rintro r w9 ⟨rfl, hb5⟩
          clear p0 p1 p2 p3 p4 p5 p6 p7 p8 p9 p10 p11 r0 r1 r2 r3 r4 r5 r6 r7 r8 r9 r10 r11 u0 u1 v0 v1 RP RQ K4
          replace own1 := own1.below hb5
          replace own3 := own3.below hb5
          replace cp := cp.keep hb5; replace fp := fp.keep hb5 lp; replace lp := cp.lt; replace cr := cr.keep hb5; replace fr := fr.keep hb5 lr; replace lr := cr.lt; replace hW := then_ hW hb5
          clear hb5
          have p0 := cp 0 _ rfl; have p1 := cp 1 _ rfl; have p2 := cp 2 _ rfl; have p3 := cp 3 _ rfl; have p4 := cp 4 _ rfl; have p5 := cp 5 _ rfl; have p6 := cp 6 _ rfl; have p7 := cp 7 _ rfl; have p8 := cp 8 _ rfl; have p9 := cp 9 _ rfl; have p10 := cp 10 _ rfl; have p11 := cp 11 _ rfl
          have r0 := cr 0 _ rfl; have r1 := cr 1 _ rfl; have r2 := cr 2 _ rfl; have r3 := cr 3 _ rfl; have r4 := cr 4 _ rfl; have r5 := cr 5 _ rfl; have r6 := cr 6 _ rfl; have r7 := cr 7 _ rfl; have r8 := cr 8 _ rfl; have r9 := cr 9 _ rfl; have r10 := cr 10 _ rfl; have r11 := cr 11 _ rfl
          have R1 := Lib.hid own1.rd.rb
          have R3 := Lib.hid own3.rd.rb
          go_wp2_with fail
          (with_reducible refine (K3.out _ _ _ _ _ R1.out R3.out).mono ?_)
          rintro r w10 ⟨rfl, hb5⟩
          go_wp2
          go_ret
          exact ⟨rfl, then_ hW hb5⟩
        · have KA := Lib.hid (fun H w h1 h2 => runShow_any s [.light colA, e] S B L H k d q 2 2 w hg hk (evs_two colA_ok HE.out) (by omega) h1 h2)
          have KS := Lib.hid (fun H w h1 h2 => specRunShow_any s [.light colA, e] S B L H k d q 2 2 w hg hk (evs_two colA_ok HE.out) (by omega) h1 h2)
          have KB := Lib.hid (fun H w h1 h2 => runShow_any s [e, .light colA] S B L H k d q 2 2 w hg hk (evs_two HE.out colA_ok) (by omega) h1 h2)
          have HA := Lib.hid ha
          have HBB := Lib.hid hb
          clear ha hb hg hk he3
          have a0 := ca 0 _ rfl; have a1 := ca 1 _ rfl; have a2 := ca 2 _ rfl; have a3 := ca 3 _ rfl; have a4 := ca 4 _ rfl; have a5 := ca 5 _ rfl; have a6 := ca 6 _ rfl; have a7 := ca 7 _ rfl; have a8 := ca 8 _ rfl; have a9 := ca 9 _ rfl; have a10 := ca 10 _ rfl; have a11 := ca 11 _ rfl
          have b0 := cb 0 _ rfl; have b1 := cb 1 _ rfl; have b2 := cb 2 _ rfl; have b3 := cb 3 _ rfl; have b4 := cb 4 _ rfl; have b5 := cb 5 _ rfl; have b6 := cb 6 _ rfl; have b7 := cb 7 _ rfl; have b8 := cb 8 _ rfl; have b9 := cb 9 _ rfl; have b10 := cb 10 _ rfl; have b11 := cb 11 _ rfl; have b12 := cb 12 _ rfl
          have l0 := cl 0 _ rfl; have l1 := cl 1 _ rfl; have l2 := cl 2 _ rfl; have l3 := cl 3 _ rfl; have l4 := cl 4 _ rfl; have l5 := cl 5 _ rfl; have l6 := cl 6 _ rfl; have l7 := cl 7 _ rfl; have l8 := cl 8 _ rfl; have l9 := cl 9 _ rfl; have l10 := cl 10 _ rfl; have l11 := cl 11 _ rfl; have l12 := cl 12 _ rfl
          go_wp2_with fail
          clear a0 a1 a2 a3 a4 a5 a6 a7 a8 a9 a10 a11 b0 b1 b2 b3 b4 b5 b6 b7 b8 b9 b10 b11 b12 l0 l1 l2 l3 l4 l5 l6 l7 l8 l9 l10 l11 l12
          have hal : Below X.heap.size X (X.alloc (Obj.cells #[.int .i64 3, .int .i64 0, .complex .f32 0 0, .complex .f32 0 0, .complex .f32 0 0, .complex .f32 0 0, .float .f32 0, .float .f32 0, .float .f32 0, .float .f32 0, .float .f32 1056964608, .float .f32 0, .float .f32 1048576000, .int .i64 e.k, .int .i64 e.n, .complex .f32 e.z.1 e.z.2, .complex .f32 e.s.1.1 e.s.1.2, .complex .f32 e.s.2.1.1 e.s.2.1.2, .complex .f32 e.s.2.2.1.1 e.s.2.2.1.2, .float .f32 e.s.2.2.2.1.1, .float .f32 e.s.2.2.2.1.2.1, .float .f32 e.s.2.2.2.1.2.2, .float .f32 e.s.2.2.2.2, .float .f32 e.c.1, .float .f32 e.c.2.1, .float .f32 e.c.2.2] 38)) := by (with_reducible exact Below.alloc (Below.refl _ _) (Nat.le_refl _) _)
          have RE : Rd evC 13 (X.alloc (Obj.cells #[.int .i64 3, .int .i64 0, .complex .f32 0 0, .complex .f32 0 0, .complex .f32 0 0, .complex .f32 0 0, .float .f32 0, .float .f32 0, .float .f32 0, .float .f32 0, .float .f32 1056964608, .float .f32 0, .float .f32 1048576000, .int .i64 e.k, .int .i64 e.n, .complex .f32 e.z.1 e.z.2, .complex .f32 e.s.1.1 e.s.1.2, .complex .f32 e.s.2.1.1 e.s.2.1.2, .complex .f32 e.s.2.2.1.1 e.s.2.2.1.2, .float .f32 e.s.2.2.2.1.1, .float .f32 e.s.2.2.2.1.2.1, .float .f32 e.s.2.2.2.1.2.2, .float .f32 e.s.2.2.2.2, .float .f32 e.c.1, .float .f32 e.c.2.1, .float .f32 e.c.2.2] 38)) (X.alloc (Obj.cells #[.int .i64 3, .int .i64 0, .complex .f32 0 0, .complex .f32 0 0, .complex .f32 0 0, .complex .f32 0 0, .float .f32 0, .float .f32 0, .float .f32 0, .float .f32 0, .float .f32 1056964608, .float .f32 0, .float .f32 1048576000, .int .i64 e.k, .int .i64 e.n, .complex .f32 e.z.1 e.z.2, .complex .f32 e.s.1.1 e.s.1.2, .complex .f32 e.s.2.1.1 e.s.2.1.2, .complex .f32 e.s.2.2.1.1 e.s.2.2.1.2, .float .f32 e.s.2.2.2.1.1, .float .f32 e.s.2.2.2.1.2.1, .float .f32 e.s.2.2.2.1.2.2, .float .f32 e.s.2.2.2.2, .float .f32 e.c.1, .float .f32 e.c.2.1, .float .f32 e.c.2.2] 38)).heap.size (some ⟨X.heap.size, 0, none⟩) 2 [.light colA, e] := rd_two X (.light colA) e 38
          replace own := own.below hal
          replace ca := ca.keep hal; replace fa := fa.keep hal la; replace la := ca.lt; replace cb := cb.keep hal; replace fb := fb.keep hal lb; replace lb := cb.lt; replace cl := cl.keep hal; replace fl := fl.keep hal ll; replace ll := cl.lt; replace hW := then_ hW hal
          obtain ⟨Y1, hY1e⟩ : ∃ Y1, Y1 = X.alloc (Obj.cells #[.int .i64 3, .int .i64 0, .complex .f32 0 0, .complex .f32 0 0, .complex .f32 0 0, .complex .f32 0 0, .float .f32 0, .float .f32 0, .float .f32 0, .float .f32 0, .float .f32 1056964608, .float .f32 0, .float .f32 1048576000, .int .i64 e.k, .int .i64 e.n, .complex .f32 e.z.1 e.z.2, .complex .f32 e.s.1.1 e.s.1.2, .complex .f32 e.s.2.1.1 e.s.2.1.2, .complex .f32 e.s.2.2.1.1 e.s.2.2.1.2, .float .f32 e.s.2.2.2.1.1, .float .f32 e.s.2.2.2.1.2.1, .float .f32 e.s.2.2.2.1.2.2, .float .f32 e.s.2.2.2.2, .float .f32 e.c.1, .float .f32 e.c.2.1, .float .f32 e.c.2.2] 38) := ⟨_, rfl⟩
          rw [← hY1e] at ca fa la cb fb lb cl fl ll hW own RE
          rw [← hY1e]
          clear hY1e hal
          have R := Lib.hid own.rd
          (with_reducible refine (KA.out _ _ R.out RE).mono ?_)
          rintro r wZ1 ⟨hri, hb5⟩
          obtain ⟨k1, t1, A1, B1, L1, c1, d1, q1, hk1, hr1, hc1, rfl, own1⟩ := runI_at hri HA.out
          have RU := Lib.hid (And.intro hr1 hc1)
          have hn1 : ((k1 : Int) != 2) = true := by simp; omega
          have hl1 : (k1 : Int) < 2 := by omega
          clear hr1 hc1 own1
          clear R RE KA
          replace own := own.below hb5
          replace ca := ca.keep hb5; replace fa := fa.keep hb5 la; replace la := ca.lt; replace cb := cb.keep hb5; replace fb := fb.keep hb5 lb; replace lb := cb.lt; replace cl := cl.keep hb5; replace fl := fl.keep hb5 ll; replace ll := cl.lt; replace hW := then_ hW hb5
          clear hb5
          go_upto_region 9 with fail
          have cp := CA.new wZ1 #[.int .i64 t1.sz, .float .f32 t1.st, .float .f32 t1.li.1, .float .f32 t1.li.2.1, .float .f32 t1.li.2.2, .slice A1 t1.sh.length c1, .int .i64 t1.mir, .complex .f32 t1.gr.1 t1.gr.2, .float .f32 t1.loss, .slice B1 t1.bs.length d1, .int .i64 t1.tk, .slice L1 t1.log.length q1] 34; have fp := FA.new wZ1 #[.int .i64 t1.sz, .float .f32 t1.st, .float .f32 t1.li.1, .float .f32 t1.li.2.1, .float .f32 t1.li.2.2, .slice A1 t1.sh.length c1, .int .i64 t1.mir, .complex .f32 t1.gr.1 t1.gr.2, .float .f32 t1.loss, .slice B1 t1.bs.length d1, .int .i64 t1.tk, .slice L1 t1.log.length q1] 34; replace ca := ca.alloc (Obj.cells #[.int .i64 t1.sz, .float .f32 t1.st, .float .f32 t1.li.1, .float .f32 t1.li.2.1, .float .f32 t1.li.2.2, .slice A1 t1.sh.length c1, .int .i64 t1.mir, .complex .f32 t1.gr.1 t1.gr.2, .float .f32 t1.loss, .slice B1 t1.bs.length d1, .int .i64 t1.tk, .slice L1 t1.log.length q1] 34); replace fa := fa.alloc la (Obj.cells #[.int .i64 t1.sz, .float .f32 t1.st, .float .f32 t1.li.1, .float .f32 t1.li.2.1, .float .f32 t1.li.2.2, .slice A1 t1.sh.length c1, .int .i64 t1.mir, .complex .f32 t1.gr.1 t1.gr.2, .float .f32 t1.loss, .slice B1 t1.bs.length d1, .int .i64 t1.tk, .slice L1 t1.log.length q1] 34); replace cb := cb.alloc (Obj.cells #[.int .i64 t1.sz, .float .f32 t1.st, .float .f32 t1.li.1, .float .f32 t1.li.2.1, .float .f32 t1.li.2.2, .slice A1 t1.sh.length c1, .int .i64 t1.mir, .complex .f32 t1.gr.1 t1.gr.2, .float .f32 t1.loss, .slice B1 t1.bs.length d1, .int .i64 t1.tk, .slice L1 t1.log.length q1] 34); replace fb := fb.alloc lb (Obj.cells #[.int .i64 t1.sz, .float .f32 t1.st, .float .f32 t1.li.1, .float .f32 t1.li.2.1, .float .f32 t1.li.2.2, .slice A1 t1.sh.length c1, .int .i64 t1.mir, .complex .f32 t1.gr.1 t1.gr.2, .float .f32 t1.loss, .slice B1 t1.bs.length d1, .int .i64 t1.tk, .slice L1 t1.log.length q1] 34); replace cl := cl.alloc (Obj.cells #[.int .i64 t1.sz, .float .f32 t1.st, .float .f32 t1.li.1, .float .f32 t1.li.2.1, .float .f32 t1.li.2.2, .slice A1 t1.sh.length c1, .int .i64 t1.mir, .complex .f32 t1.gr.1 t1.gr.2, .float .f32 t1.loss, .slice B1 t1.bs.length d1, .int .i64 t1.tk, .slice L1 t1.log.length q1] 34); replace fl := fl.alloc ll (Obj.cells #[.int .i64 t1.sz, .float .f32 t1.st, .float .f32 t1.li.1, .float .f32 t1.li.2.1, .float .f32 t1.li.2.2, .slice A1 t1.sh.length c1, .int .i64 t1.mir, .complex .f32 t1.gr.1 t1.gr.2, .float .f32 t1.loss, .slice B1 t1.bs.length d1, .int .i64 t1.tk, .slice L1 t1.log.length q1] 34); replace hW := hW.alloc (hW.size) (Obj.cells #[.int .i64 t1.sz, .float .f32 t1.st, .float .f32 t1.li.1, .float .f32 t1.li.2.1, .float .f32 t1.li.2.2, .slice A1 t1.sh.length c1, .int .i64 t1.mir, .complex .f32 t1.gr.1 t1.gr.2, .float .f32 t1.loss, .slice B1 t1.bs.length d1, .int .i64 t1.tk, .slice L1 t1.log.length q1] 34); replace own := own.alloc (own.size) (Obj.cells #[.int .i64 t1.sz, .float .f32 t1.st, .float .f32 t1.li.1, .float .f32 t1.li.2.1, .float .f32 t1.li.2.2, .slice A1 t1.sh.length c1, .int .i64 t1.mir, .complex .f32 t1.gr.1 t1.gr.2, .float .f32 t1.loss, .slice B1 t1.bs.length d1, .int .i64 t1.tk, .slice L1 t1.log.length q1] 34); obtain ⟨Z1, hZ1e⟩ : ∃ Z1, Z1 = wZ1.alloc (Obj.cells #[.int .i64 t1.sz, .float .f32 t1.st, .float .f32 t1.li.1, .float .f32 t1.li.2.1, .float .f32 t1.li.2.2, .slice A1 t1.sh.length c1, .int .i64 t1.mir, .complex .f32 t1.gr.1 t1.gr.2, .float .f32 t1.loss, .slice B1 t1.bs.length d1, .int .i64 t1.tk, .slice L1 t1.log.length q1] 34) := ⟨_, rfl⟩; have zZ1 : Z1.heap.size = wZ1.heap.size + 1 := (by rw [hZ1e]; simp); rw [← hZ1e] at cp fp ca fa cb fb cl fl hW own; rw [← hZ1e]; clear hZ1e; have lp := cp.lt; replace la := ca.lt; replace lb := cb.lt; replace ll := cl.lt
          clear zZ1
          clear cp fp lp
          have a0 := ca 0 _ rfl; have a1 := ca 1 _ rfl; have a2 := ca 2 _ rfl; have a3 := ca 3 _ rfl; have a4 := ca 4 _ rfl; have a5 := ca 5 _ rfl; have a6 := ca 6 _ rfl; have a7 := ca 7 _ rfl; have a8 := ca 8 _ rfl; have a9 := ca 9 _ rfl; have a10 := ca 10 _ rfl; have a11 := ca 11 _ rfl
          have b0 := cb 0 _ rfl; have b1 := cb 1 _ rfl; have b2 := cb 2 _ rfl; have b3 := cb 3 _ rfl; have b4 := cb 4 _ rfl; have b5 := cb 5 _ rfl; have b6 := cb 6 _ rfl; have b7 := cb 7 _ rfl; have b8 := cb 8 _ rfl; have b9 := cb 9 _ rfl; have b10 := cb 10 _ rfl; have b11 := cb 11 _ rfl; have b12 := cb 12 _ rfl
          have l0 := cl 0 _ rfl; have l1 := cl 1 _ rfl; have l2 := cl 2 _ rfl; have l3 := cl 3 _ rfl; have l4 := cl 4 _ rfl; have l5 := cl 5 _ rfl; have l6 := cl 6 _ rfl; have l7 := cl 7 _ rfl; have l8 := cl 8 _ rfl; have l9 := cl 9 _ rfl; have l10 := cl 10 _ rfl; have l11 := cl 11 _ rfl; have l12 := cl 12 _ rfl
          go_wp2_with fail
          clear a0 a1 a2 a3 a4 a5 a6 a7 a8 a9 a10 a11 b0 b1 b2 b3 b4 b5 b6 b7 b8 b9 b10 b11 b12 l0 l1 l2 l3 l4 l5 l6 l7 l8 l9 l10 l11 l12
          have hal : Below Z1.heap.size Z1 (Z1.alloc (Obj.cells #[.int .i64 3, .int .i64 0, .complex .f32 0 0, .complex .f32 0 0, .complex .f32 0 0, .complex .f32 0 0, .float .f32 0, .float .f32 0, .float .f32 0, .float .f32 0, .float .f32 1056964608, .float .f32 0, .float .f32 1048576000, .int .i64 e.k, .int .i64 e.n, .complex .f32 e.z.1 e.z.2, .complex .f32 e.s.1.1 e.s.1.2, .complex .f32 e.s.2.1.1 e.s.2.1.2, .complex .f32 e.s.2.2.1.1 e.s.2.2.1.2, .float .f32 e.s.2.2.2.1.1, .float .f32 e.s.2.2.2.1.2.1, .float .f32 e.s.2.2.2.1.2.2, .float .f32 e.s.2.2.2.2, .float .f32 e.c.1, .float .f32 e.c.2.1, .float .f32 e.c.2.2] 38)) := by (with_reducible exact Below.alloc (Below.refl _ _) (Nat.le_refl _) _)
          have RE : Rd evC 13 (Z1.alloc (Obj.cells #[.int .i64 3, .int .i64 0, .complex .f32 0 0, .complex .f32 0 0, .complex .f32 0 0, .complex .f32 0 0, .float .f32 0, .float .f32 0, .float .f32 0, .float .f32 0, .float .f32 1056964608, .float .f32 0, .float .f32 1048576000, .int .i64 e.k, .int .i64 e.n, .complex .f32 e.z.1 e.z.2, .complex .f32 e.s.1.1 e.s.1.2, .complex .f32 e.s.2.1.1 e.s.2.1.2, .complex .f32 e.s.2.2.1.1 e.s.2.2.1.2, .float .f32 e.s.2.2.2.1.1, .float .f32 e.s.2.2.2.1.2.1, .float .f32 e.s.2.2.2.1.2.2, .float .f32 e.s.2.2.2.2, .float .f32 e.c.1, .float .f32 e.c.2.1, .float .f32 e.c.2.2] 38)) (Z1.alloc (Obj.cells #[.int .i64 3, .int .i64 0, .complex .f32 0 0, .complex .f32 0 0, .complex .f32 0 0, .complex .f32 0 0, .float .f32 0, .float .f32 0, .float .f32 0, .float .f32 0, .float .f32 1056964608, .float .f32 0, .float .f32 1048576000, .int .i64 e.k, .int .i64 e.n, .complex .f32 e.z.1 e.z.2, .complex .f32 e.s.1.1 e.s.1.2, .complex .f32 e.s.2.1.1 e.s.2.1.2, .complex .f32 e.s.2.2.1.1 e.s.2.2.1.2, .float .f32 e.s.2.2.2.1.1, .float .f32 e.s.2.2.2.1.2.1, .float .f32 e.s.2.2.2.1.2.2, .float .f32 e.s.2.2.2.2, .float .f32 e.c.1, .float .f32 e.c.2.1, .float .f32 e.c.2.2] 38)).heap.size (some ⟨Z1.heap.size, 0, none⟩) 2 [.light colA, e] := rd_two Z1 (.light colA) e 38
          replace own := own.below hal
          replace ca := ca.keep hal; replace fa := fa.keep hal la; replace la := ca.lt; replace cb := cb.keep hal; replace fb := fb.keep hal lb; replace lb := cb.lt; replace cl := cl.keep hal; replace fl := fl.keep hal ll; replace ll := cl.lt; replace hW := then_ hW hal
          obtain ⟨Y2, hY2e⟩ : ∃ Y2, Y2 = Z1.alloc (Obj.cells #[.int .i64 3, .int .i64 0, .complex .f32 0 0, .complex .f32 0 0, .complex .f32 0 0, .complex .f32 0 0, .float .f32 0, .float .f32 0, .float .f32 0, .float .f32 0, .float .f32 1056964608, .float .f32 0, .float .f32 1048576000, .int .i64 e.k, .int .i64 e.n, .complex .f32 e.z.1 e.z.2, .complex .f32 e.s.1.1 e.s.1.2, .complex .f32 e.s.2.1.1 e.s.2.1.2, .complex .f32 e.s.2.2.1.1 e.s.2.2.1.2, .float .f32 e.s.2.2.2.1.1, .float .f32 e.s.2.2.2.1.2.1, .float .f32 e.s.2.2.2.1.2.2, .float .f32 e.s.2.2.2.2, .float .f32 e.c.1, .float .f32 e.c.2.1, .float .f32 e.c.2.2] 38) := ⟨_, rfl⟩
          rw [← hY2e] at ca fa la cb fb lb cl fl ll hW own RE
          rw [← hY2e]
          clear hY2e hal
          have R := Lib.hid own.rd
          (with_reducible refine (KS.out _ _ R.out RE).mono ?_)
          rintro r wZ2 ⟨hri, hb5⟩
          obtain ⟨k2, t2, A2, B2, L2, c2, d2, q2, hk2, hr2, hc2, rfl, own2⟩ := runI_at hri HA.out
          obtain ⟨rfl, -⟩ := run_unique RU.out.1 (by omega) (.inr RU.out.2) hr2 (show k2 ≤ 2 by omega) (.inr hc2)
          have hz1 : ((k1 : Int) != (k1 : Int)) = false := by simp
          clear hr2 hc2 own2
          clear R RE KS
          replace own := own.below hb5
          replace ca := ca.keep hb5; replace fa := fa.keep hb5 la; replace la := ca.lt; replace cb := cb.keep hb5; replace fb := fb.keep hb5 lb; replace lb := cb.lt; replace cl := cl.keep hb5; replace fl := fl.keep hb5 ll; replace ll := cl.lt; replace hW := then_ hW hb5
          clear hb5
          go_upto_region 10 with fail
          have cz := CA.new wZ2 #[.int .i64 t2.sz, .float .f32 t2.st, .float .f32 t2.li.1, .float .f32 t2.li.2.1, .float .f32 t2.li.2.2, .slice A2 t2.sh.length c2, .int .i64 t2.mir, .complex .f32 t2.gr.1 t2.gr.2, .float .f32 t2.loss, .slice B2 t2.bs.length d2, .int .i64 t2.tk, .slice L2 t2.log.length q2] 34; have fz := FA.new wZ2 #[.int .i64 t2.sz, .float .f32 t2.st, .float .f32 t2.li.1, .float .f32 t2.li.2.1, .float .f32 t2.li.2.2, .slice A2 t2.sh.length c2, .int .i64 t2.mir, .complex .f32 t2.gr.1 t2.gr.2, .float .f32 t2.loss, .slice B2 t2.bs.length d2, .int .i64 t2.tk, .slice L2 t2.log.length q2] 34; replace ca := ca.alloc (Obj.cells #[.int .i64 t2.sz, .float .f32 t2.st, .float .f32 t2.li.1, .float .f32 t2.li.2.1, .float .f32 t2.li.2.2, .slice A2 t2.sh.length c2, .int .i64 t2.mir, .complex .f32 t2.gr.1 t2.gr.2, .float .f32 t2.loss, .slice B2 t2.bs.length d2, .int .i64 t2.tk, .slice L2 t2.log.length q2] 34); replace fa := fa.alloc la (Obj.cells #[.int .i64 t2.sz, .float .f32 t2.st, .float .f32 t2.li.1, .float .f32 t2.li.2.1, .float .f32 t2.li.2.2, .slice A2 t2.sh.length c2, .int .i64 t2.mir, .complex .f32 t2.gr.1 t2.gr.2, .float .f32 t2.loss, .slice B2 t2.bs.length d2, .int .i64 t2.tk, .slice L2 t2.log.length q2] 34); replace cb := cb.alloc (Obj.cells #[.int .i64 t2.sz, .float .f32 t2.st, .float .f32 t2.li.1, .float .f32 t2.li.2.1, .float .f32 t2.li.2.2, .slice A2 t2.sh.length c2, .int .i64 t2.mir, .complex .f32 t2.gr.1 t2.gr.2, .float .f32 t2.loss, .slice B2 t2.bs.length d2, .int .i64 t2.tk, .slice L2 t2.log.length q2] 34); replace fb := fb.alloc lb (Obj.cells #[.int .i64 t2.sz, .float .f32 t2.st, .float .f32 t2.li.1, .float .f32 t2.li.2.1, .float .f32 t2.li.2.2, .slice A2 t2.sh.length c2, .int .i64 t2.mir, .complex .f32 t2.gr.1 t2.gr.2, .float .f32 t2.loss, .slice B2 t2.bs.length d2, .int .i64 t2.tk, .slice L2 t2.log.length q2] 34); replace cl := cl.alloc (Obj.cells #[.int .i64 t2.sz, .float .f32 t2.st, .float .f32 t2.li.1, .float .f32 t2.li.2.1, .float .f32 t2.li.2.2, .slice A2 t2.sh.length c2, .int .i64 t2.mir, .complex .f32 t2.gr.1 t2.gr.2, .float .f32 t2.loss, .slice B2 t2.bs.length d2, .int .i64 t2.tk, .slice L2 t2.log.length q2] 34); replace fl := fl.alloc ll (Obj.cells #[.int .i64 t2.sz, .float .f32 t2.st, .float .f32 t2.li.1, .float .f32 t2.li.2.1, .float .f32 t2.li.2.2, .slice A2 t2.sh.length c2, .int .i64 t2.mir, .complex .f32 t2.gr.1 t2.gr.2, .float .f32 t2.loss, .slice B2 t2.bs.length d2, .int .i64 t2.tk, .slice L2 t2.log.length q2] 34); replace hW := hW.alloc (hW.size) (Obj.cells #[.int .i64 t2.sz, .float .f32 t2.st, .float .f32 t2.li.1, .float .f32 t2.li.2.1, .float .f32 t2.li.2.2, .slice A2 t2.sh.length c2, .int .i64 t2.mir, .complex .f32 t2.gr.1 t2.gr.2, .float .f32 t2.loss, .slice B2 t2.bs.length d2, .int .i64 t2.tk, .slice L2 t2.log.length q2] 34); replace own := own.alloc (own.size) (Obj.cells #[.int .i64 t2.sz, .float .f32 t2.st, .float .f32 t2.li.1, .float .f32 t2.li.2.1, .float .f32 t2.li.2.2, .slice A2 t2.sh.length c2, .int .i64 t2.mir, .complex .f32 t2.gr.1 t2.gr.2, .float .f32 t2.loss, .slice B2 t2.bs.length d2, .int .i64 t2.tk, .slice L2 t2.log.length q2] 34); obtain ⟨Z2, hZ2e⟩ : ∃ Z2, Z2 = wZ2.alloc (Obj.cells #[.int .i64 t2.sz, .float .f32 t2.st, .float .f32 t2.li.1, .float .f32 t2.li.2.1, .float .f32 t2.li.2.2, .slice A2 t2.sh.length c2, .int .i64 t2.mir, .complex .f32 t2.gr.1 t2.gr.2, .float .f32 t2.loss, .slice B2 t2.bs.length d2, .int .i64 t2.tk, .slice L2 t2.log.length q2] 34) := ⟨_, rfl⟩; have zZ2 : Z2.heap.size = wZ2.heap.size + 1 := (by rw [hZ2e]; simp); rw [← hZ2e] at cz fz ca fa cb fb cl fl hW own; rw [← hZ2e]; clear hZ2e; have lz := cz.lt; replace la := ca.lt; replace lb := cb.lt; replace ll := cl.lt
          clear zZ2
          clear cz fz lz
          have a0 := ca 0 _ rfl; have a1 := ca 1 _ rfl; have a2 := ca 2 _ rfl; have a3 := ca 3 _ rfl; have a4 := ca 4 _ rfl; have a5 := ca 5 _ rfl; have a6 := ca 6 _ rfl; have a7 := ca 7 _ rfl; have a8 := ca 8 _ rfl; have a9 := ca 9 _ rfl; have a10 := ca 10 _ rfl; have a11 := ca 11 _ rfl
          have b0 := cb 0 _ rfl; have b1 := cb 1 _ rfl; have b2 := cb 2 _ rfl; have b3 := cb 3 _ rfl; have b4 := cb 4 _ rfl; have b5 := cb 5 _ rfl; have b6 := cb 6 _ rfl; have b7 := cb 7 _ rfl; have b8 := cb 8 _ rfl; have b9 := cb 9 _ rfl; have b10 := cb 10 _ rfl; have b11 := cb 11 _ rfl; have b12 := cb 12 _ rfl
          have l0 := cl 0 _ rfl; have l1 := cl 1 _ rfl; have l2 := cl 2 _ rfl; have l3 := cl 3 _ rfl; have l4 := cl 4 _ rfl; have l5 := cl 5 _ rfl; have l6 := cl 6 _ rfl; have l7 := cl 7 _ rfl; have l8 := cl 8 _ rfl; have l9 := cl 9 _ rfl; have l10 := cl 10 _ rfl; have l11 := cl 11 _ rfl; have l12 := cl 12 _ rfl
          go_wp2_with fail
          clear a0 a1 a2 a3 a4 a5 a6 a7 a8 a9 a10 a11 b0 b1 b2 b3 b4 b5 b6 b7 b8 b9 b10 b11 b12 l0 l1 l2 l3 l4 l5 l6 l7 l8 l9 l10 l11 l12
          have hal : Below Z2.heap.size Z2 (Z2.alloc (Obj.cells #[.int .i64 e.k, .int .i64 e.n, .complex .f32 e.z.1 e.z.2, .complex .f32 e.s.1.1 e.s.1.2, .complex .f32 e.s.2.1.1 e.s.2.1.2, .complex .f32 e.s.2.2.1.1 e.s.2.2.1.2, .float .f32 e.s.2.2.2.1.1, .float .f32 e.s.2.2.2.1.2.1, .float .f32 e.s.2.2.2.1.2.2, .float .f32 e.s.2.2.2.2, .float .f32 e.c.1, .float .f32 e.c.2.1, .float .f32 e.c.2.2, .int .i64 3, .int .i64 0, .complex .f32 0 0, .complex .f32 0 0, .complex .f32 0 0, .complex .f32 0 0, .float .f32 0, .float .f32 0, .float .f32 0, .float .f32 0, .float .f32 1056964608, .float .f32 0, .float .f32 1048576000] 38)) := by (with_reducible exact Below.alloc (Below.refl _ _) (Nat.le_refl _) _)
          have RE : Rd evC 13 (Z2.alloc (Obj.cells #[.int .i64 e.k, .int .i64 e.n, .complex .f32 e.z.1 e.z.2, .complex .f32 e.s.1.1 e.s.1.2, .complex .f32 e.s.2.1.1 e.s.2.1.2, .complex .f32 e.s.2.2.1.1 e.s.2.2.1.2, .float .f32 e.s.2.2.2.1.1, .float .f32 e.s.2.2.2.1.2.1, .float .f32 e.s.2.2.2.1.2.2, .float .f32 e.s.2.2.2.2, .float .f32 e.c.1, .float .f32 e.c.2.1, .float .f32 e.c.2.2, .int .i64 3, .int .i64 0, .complex .f32 0 0, .complex .f32 0 0, .complex .f32 0 0, .complex .f32 0 0, .float .f32 0, .float .f32 0, .float .f32 0, .float .f32 0, .float .f32 1056964608, .float .f32 0, .float .f32 1048576000] 38)) (Z2.alloc (Obj.cells #[.int .i64 e.k, .int .i64 e.n, .complex .f32 e.z.1 e.z.2, .complex .f32 e.s.1.1 e.s.1.2, .complex .f32 e.s.2.1.1 e.s.2.1.2, .complex .f32 e.s.2.2.1.1 e.s.2.2.1.2, .float .f32 e.s.2.2.2.1.1, .float .f32 e.s.2.2.2.1.2.1, .float .f32 e.s.2.2.2.1.2.2, .float .f32 e.s.2.2.2.2, .float .f32 e.c.1, .float .f32 e.c.2.1, .float .f32 e.c.2.2, .int .i64 3, .int .i64 0, .complex .f32 0 0, .complex .f32 0 0, .complex .f32 0 0, .complex .f32 0 0, .float .f32 0, .float .f32 0, .float .f32 0, .float .f32 0, .float .f32 1056964608, .float .f32 0, .float .f32 1048576000] 38)).heap.size (some ⟨Z2.heap.size, 0, none⟩) 2 [e, .light colA] := rd_two Z2 e (.light colA) 38
          replace own := own.below hal
          replace ca := ca.keep hal; replace fa := fa.keep hal la; replace la := ca.lt; replace cb := cb.keep hal; replace fb := fb.keep hal lb; replace lb := cb.lt; replace cl := cl.keep hal; replace fl := fl.keep hal ll; replace ll := cl.lt; replace hW := then_ hW hal
          obtain ⟨Y3, hY3e⟩ : ∃ Y3, Y3 = Z2.alloc (Obj.cells #[.int .i64 e.k, .int .i64 e.n, .complex .f32 e.z.1 e.z.2, .complex .f32 e.s.1.1 e.s.1.2, .complex .f32 e.s.2.1.1 e.s.2.1.2, .complex .f32 e.s.2.2.1.1 e.s.2.2.1.2, .float .f32 e.s.2.2.2.1.1, .float .f32 e.s.2.2.2.1.2.1, .float .f32 e.s.2.2.2.1.2.2, .float .f32 e.s.2.2.2.2, .float .f32 e.c.1, .float .f32 e.c.2.1, .float .f32 e.c.2.2, .int .i64 3, .int .i64 0, .complex .f32 0 0, .complex .f32 0 0, .complex .f32 0 0, .complex .f32 0 0, .float .f32 0, .float .f32 0, .float .f32 0, .float .f32 0, .float .f32 1056964608, .float .f32 0, .float .f32 1048576000] 38) := ⟨_, rfl⟩
          rw [← hY3e] at ca fa la cb fb lb cl fl ll hW own RE
          rw [← hY3e]
          clear hY3e hal
          have R := Lib.hid own.rd
          (with_reducible refine (KB.out _ _ R.out RE).mono ?_)
          rintro r wZ3 ⟨hri, hb5⟩
          obtain ⟨k3, t3, A3, B3, L3, c3, d3, q3, hk3, hr3, hc3, rfl, own3⟩ := runI_at hri HBB.out
          have hl3 : (k3 : Int) < 2 := by omega
          clear hr3 hc3 own3
          clear R RE KB
          replace own := own.below hb5
          replace ca := ca.keep hb5; replace fa := fa.keep hb5 la; replace la := ca.lt; replace cb := cb.keep hb5; replace fb := fb.keep hb5 lb; replace lb := cb.lt; replace cl := cl.keep hb5; replace fl := fl.keep hb5 ll; replace ll := cl.lt; replace hW := then_ hW hb5
          clear hb5
          go_upto_region 13 with fail
          have cr := CA.new wZ3 #[.int .i64 t3.sz, .float .f32 t3.st, .float .f32 t3.li.1, .float .f32 t3.li.2.1, .float .f32 t3.li.2.2, .slice A3 t3.sh.length c3, .int .i64 t3.mir, .complex .f32 t3.gr.1 t3.gr.2, .float .f32 t3.loss, .slice B3 t3.bs.length d3, .int .i64 t3.tk, .slice L3 t3.log.length q3] 34; have fr := FA.new wZ3 #[.int .i64 t3.sz, .float .f32 t3.st, .float .f32 t3.li.1, .float .f32 t3.li.2.1, .float .f32 t3.li.2.2, .slice A3 t3.sh.length c3, .int .i64 t3.mir, .complex .f32 t3.gr.1 t3.gr.2, .float .f32 t3.loss, .slice B3 t3.bs.length d3, .int .i64 t3.tk, .slice L3 t3.log.length q3] 34; replace ca := ca.alloc (Obj.cells #[.int .i64 t3.sz, .float .f32 t3.st, .float .f32 t3.li.1, .float .f32 t3.li.2.1, .float .f32 t3.li.2.2, .slice A3 t3.sh.length c3, .int .i64 t3.mir, .complex .f32 t3.gr.1 t3.gr.2, .float .f32 t3.loss, .slice B3 t3.bs.length d3, .int .i64 t3.tk, .slice L3 t3.log.length q3] 34); replace fa := fa.alloc la (Obj.cells #[.int .i64 t3.sz, .float .f32 t3.st, .float .f32 t3.li.1, .float .f32 t3.li.2.1, .float .f32 t3.li.2.2, .slice A3 t3.sh.length c3, .int .i64 t3.mir, .complex .f32 t3.gr.1 t3.gr.2, .float .f32 t3.loss, .slice B3 t3.bs.length d3, .int .i64 t3.tk, .slice L3 t3.log.length q3] 34); replace cb := cb.alloc (Obj.cells #[.int .i64 t3.sz, .float .f32 t3.st, .float .f32 t3.li.1, .float .f32 t3.li.2.1, .float .f32 t3.li.2.2, .slice A3 t3.sh.length c3, .int .i64 t3.mir, .complex .f32 t3.gr.1 t3.gr.2, .float .f32 t3.loss, .slice B3 t3.bs.length d3, .int .i64 t3.tk, .slice L3 t3.log.length q3] 34); replace fb := fb.alloc lb (Obj.cells #[.int .i64 t3.sz, .float .f32 t3.st, .float .f32 t3.li.1, .float .f32 t3.li.2.1, .float .f32 t3.li.2.2, .slice A3 t3.sh.length c3, .int .i64 t3.mir, .complex .f32 t3.gr.1 t3.gr.2, .float .f32 t3.loss, .slice B3 t3.bs.length d3, .int .i64 t3.tk, .slice L3 t3.log.length q3] 34); replace cl := cl.alloc (Obj.cells #[.int .i64 t3.sz, .float .f32 t3.st, .float .f32 t3.li.1, .float .f32 t3.li.2.1, .float .f32 t3.li.2.2, .slice A3 t3.sh.length c3, .int .i64 t3.mir, .complex .f32 t3.gr.1 t3.gr.2, .float .f32 t3.loss, .slice B3 t3.bs.length d3, .int .i64 t3.tk, .slice L3 t3.log.length q3] 34); replace fl := fl.alloc ll (Obj.cells #[.int .i64 t3.sz, .float .f32 t3.st, .float .f32 t3.li.1, .float .f32 t3.li.2.1, .float .f32 t3.li.2.2, .slice A3 t3.sh.length c3, .int .i64 t3.mir, .complex .f32 t3.gr.1 t3.gr.2, .float .f32 t3.loss, .slice B3 t3.bs.length d3, .int .i64 t3.tk, .slice L3 t3.log.length q3] 34); replace hW := hW.alloc (hW.size) (Obj.cells #[.int .i64 t3.sz, .float .f32 t3.st, .float .f32 t3.li.1, .float .f32 t3.li.2.1, .float .f32 t3.li.2.2, .slice A3 t3.sh.length c3, .int .i64 t3.mir, .complex .f32 t3.gr.1 t3.gr.2, .float .f32 t3.loss, .slice B3 t3.bs.length d3, .int .i64 t3.tk, .slice L3 t3.log.length q3] 34); replace own := own.alloc (own.size) (Obj.cells #[.int .i64 t3.sz, .float .f32 t3.st, .float .f32 t3.li.1, .float .f32 t3.li.2.1, .float .f32 t3.li.2.2, .slice A3 t3.sh.length c3, .int .i64 t3.mir, .complex .f32 t3.gr.1 t3.gr.2, .float .f32 t3.loss, .slice B3 t3.bs.length d3, .int .i64 t3.tk, .slice L3 t3.log.length q3] 34); obtain ⟨Z3, hZ3e⟩ : ∃ Z3, Z3 = wZ3.alloc (Obj.cells #[.int .i64 t3.sz, .float .f32 t3.st, .float .f32 t3.li.1, .float .f32 t3.li.2.1, .float .f32 t3.li.2.2, .slice A3 t3.sh.length c3, .int .i64 t3.mir, .complex .f32 t3.gr.1 t3.gr.2, .float .f32 t3.loss, .slice B3 t3.bs.length d3, .int .i64 t3.tk, .slice L3 t3.log.length q3] 34) := ⟨_, rfl⟩; have zZ3 : Z3.heap.size = wZ3.heap.size + 1 := (by rw [hZ3e]; simp); rw [← hZ3e] at cr fr ca fa cb fb cl fl hW own; rw [← hZ3e]; clear hZ3e; have lr := cr.lt; replace la := ca.lt; replace lb := cb.lt; replace ll := cl.lt
          clear zZ3
          go_wp2
          go_ret
          exact ⟨rfl, hW⟩

namespace fnMirrorsAgain
theorem own : ownKnob Tryz.prog.godebug = none := by kernel_rfl
theorem laidOut : laidOutB Tryz.prog = true := by kernel_rfl
set_option maxRecDepth 100000 in
theorem lifted (os : Os) (started : os.Started) (H : Type) (enc : TypeId × Value → H) :
    ReturnsInHanded {} Tryz.checked os 5 .any (Rows.fnMirrorsAgainSpec.pre6 enc Tryz.prog Tryz.f5 Rows.fnMirrorsAgainRow.domain false) (Rows.fnMirrorsAgainSpec.post enc Tryz.prog Tryz.f5 false true false false) := by
  refine returnsInHanded_of_change (C := Tryz.checked) own started (by kernel_rfl) Tryz.func5
    (ChangeSpec.witness6 (enc := enc) (C := Tryz.checked) false ⟨#[], #[.slice none 0 0], []⟩ 8 (by kernel_rfl) (by kernel_rfl) (by kernel_rfl) (by kernel_rfl)) ?_
  intro W base args ds gs before hval0 hW hcnd _
  have hval : ∀ (j : Nat) t v, Tryz.f5.params[j]? = some t → args[j]? = some v → Value.okWide Tryz.prog W .any base t v := hval0
  have hW' := hW
  obtain ⟨p, q, hA0, hV, rfl, hfz, hnd⟩ := hW
  have hA : DataW.TrodAll enc Tryz.prog W 0 (fun _ => true) true Tryz.f5.params.toList args.toList ds p := hA0
  rw [Tryz.params5] at hA hval
  obtain ⟨v0, vs0, d0, ds0, p0, q0, hargs, rfl, rfl, h0, r0⟩ := trodAll_cons hA
  obtain ⟨rfl, rfl, rfl⟩ := trodAll_nil r0
  obtain rfl : args = #[v0] := by cases args; simp_all
  obtain ⟨rfl, rfl⟩ := trodVars_none hV
  have k0 := h0
  have lt0 : ∀ x ∈ p0, x.block < W.heap.size := by obtain ⟨m, hm⟩ := k0; exact DataW.trod_lt m _ _ _ hm
  obtain ⟨A, n, c, bs, rfl, hn, ha, hbs⟩ := open_bytes Tryz.underlying22 Tryz.underlying5 (by kernel_rfl) (hval 0 22 v0 rfl rfl) h0
  clear hA0 hval0
  refine (lawAgain A n c bs W ha hbs).mono fun e W' ⟨he, bel⟩ => ?_
  subst he
  exact ⟨_, rfl, _, _, _, [], _, [], hW', trodAll_mk1 (shut_bool Tryz.underlying4 _), (trodAll_cons_mk (Below.trod laidOut (by kernel_rfl) (of_decide_eq_true (by kernel_rfl)) k0 bel lt0) trodAll_mk0), rfl, bel.frame _, fun h => by cases h⟩

theorem and_mk {a b : Bool} (h : a = true) (k : b = true) : (a && b) = true := by rw [h, k]; rfl
set_option maxHeartbeats 40000000 in
theorem facts : joinedFacts Tryz.pinned.checked.prog 5 Tryz.f5 Rows.fnMirrorsAgainSpec Rows.fnMirrorsAgainRow = true := by
  unfold joinedFacts
  repeat (with_reducible refine and_mk ?_ ?_)
  all_goals (as_aux_lemma => kernel_rfl)
theorem named_ : Tryz.pinned.checked.prog.funcNamed Rows.fnMirrorsAgainRow.func = some 5 := by kernel_rfl
theorem over : Rows.fnMirrorsAgainRow.holds Tryz.pinned (OpenSpec.ofChange Rows.fnMirrorsAgainSpec) :=
  OpenClaim.holds_of_wide 5 Tryz.f5 rfl rfl rfl rfl rfl rfl rfl ⟨rfl, rfl, rfl, rfl, rfl⟩ rfl rfl rfl rfl rfl named_ Tryz.func5 facts
    (of_decide_eq_true (by kernel_rfl)) (by unfold Func.isWrapper; first | (rw [if_pos (by decide +kernel)]; kernel_rfl) | (rw [if_neg (by decide +kernel)]; exact ⟨rfl, rfl⟩))
    (fun os started H enc _ => lifted os started H enc)

theorem proved : Rows.FnMirrorsAgainSaid := over
end fnMirrorsAgain
end Go.Proofs.YthlphmojldbpkaaGreat
