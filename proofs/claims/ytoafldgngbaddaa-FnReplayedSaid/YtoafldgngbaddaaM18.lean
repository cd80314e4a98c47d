/- ShowI · ShowJ · SDoP -/
import Derived.Test.YtoafldgngbaddaaEvI
import Derived.Test.YtoafldgngbaddaaM15
import Derived.Test.YtoafldgngbaddaaM3
import Derived.Test.YtoafldgngbaddaaM4
import Derived.Test.YtoafldgngbaddaaHapP
import Derived.Deep.RegionHeld3
import Derived.Deep.RegionLaw
import Derived.Deep.QuietTactic
import Derived.BigQuiet

/- The search for an event that is none; IsShow: the program's. -/
namespace Go.Proofs.Ytoafldgngbaddaa
open Go.RowKit
attribute [local go_sem] run_store_float run_store_complex

theorem Rd.ev {w : World} {B : Nat} {A : Option Addr} {n k : Nat} {xs : List Ev} (h : Rd evC 13 w B A n xs) (hk : k < n) :
    ∃ b off e, A = some ⟨b, off, none⟩ ∧ b < B ∧ xs[k]? = some e ∧ w.cell? ⟨b, off + k * 13, none⟩ = some (.int .i64 e.k) ∧ w.cell? ⟨b, off + k * 13 + 1, none⟩ = some (.int .i64 e.n) ∧ w.cell? ⟨b, off + k * 13 + 2, none⟩ = some (.complex .f32 e.z.1 e.z.2) ∧ w.cell? ⟨b, off + k * 13 + 3, none⟩ = some (.complex .f32 e.s.1.1 e.s.1.2) ∧ w.cell? ⟨b, off + k * 13 + 4, none⟩ = some (.complex .f32 e.s.2.1.1 e.s.2.1.2) ∧ w.cell? ⟨b, off + k * 13 + 5, none⟩ = some (.complex .f32 e.s.2.2.1.1 e.s.2.2.1.2) ∧ w.cell? ⟨b, off + k * 13 + 6, none⟩ = some (.float .f32 e.s.2.2.2.1.1) ∧ w.cell? ⟨b, off + k * 13 + 7, none⟩ = some (.float .f32 e.s.2.2.2.1.2.1) ∧ w.cell? ⟨b, off + k * 13 + 8, none⟩ = some (.float .f32 e.s.2.2.2.1.2.2) ∧ w.cell? ⟨b, off + k * 13 + 9, none⟩ = some (.float .f32 e.s.2.2.2.2) ∧ w.cell? ⟨b, off + k * 13 + 10, none⟩ = some (.float .f32 e.c.1) ∧ w.cell? ⟨b, off + k * 13 + 11, none⟩ = some (.float .f32 e.c.2.1) ∧ w.cell? ⟨b, off + k * 13 + 12, none⟩ = some (.float .f32 e.c.2.2) := by
  obtain ⟨b, off, e, ea, hb, hx, hc⟩ := h.at_ hk
  exact ⟨b, off, e, ea, hb, hx, hc 0 _ rfl, hc 1 _ rfl, hc 2 _ rfl, hc 3 _ rfl, hc 4 _ rfl, hc 5 _ rfl, hc 6 _ rfl, hc 7 _ rfl, hc 8 _ rfl, hc 9 _ rfl, hc 10 _ rfl, hc 11 _ rfl, hc 12 _ rfl⟩

set_option maxHeartbeats 2000000 in
theorem eventF_yes (e : Ev) (w : World) (h : evB e = true) :
    Calls Try.prog 43 #[.agg #[.int .i64 e.k, .int .i64 e.n, .complex .f32 e.z.1 e.z.2, .complex .f32 e.s.1.1 e.s.1.2, .complex .f32 e.s.2.1.1 e.s.2.1.2, .complex .f32 e.s.2.2.1.1 e.s.2.2.1.2, .float .f32 e.s.2.2.2.1.1, .float .f32 e.s.2.2.2.1.2.1, .float .f32 e.s.2.2.2.1.2.2, .float .f32 e.s.2.2.2.2, .float .f32 e.c.1, .float .f32 e.c.2.1, .float .f32 e.c.2.2]] w fun x w' => x = .returned (.bool false) ∧ Below w.heap.size w w' := by
  unfold evB at h
  rw [Bool.and_eq_true] at h
  have K := Lib.hid (fun w => isEvent_any e w h.1)
  have R := h.2
  go_enter Try.func43, Try.ntmps43
  go_wp2_with (go_at_call 34; (with_reducible refine (K.out _).mono ?_); rw [R]; rintro x w1 ⟨rfl, hb1⟩)
  go_ret
  exact ⟨rfl, by (repeat (first | with_reducible assumption | exact Below.refl _ _ | (refine Below.setCell ?_ (by first | exact Nat.le_refl _ | (simp; done) | omega | (simp; omega)) _) | (refine below_drewN ?_ _) | (refine Below.drew ?_) | (refine Below.alloc ?_ (by first | exact Nat.le_refl _ | (simp; done) | omega | (simp; omega)) _) | (refine then_ ?_ (by with_reducible assumption)) | assumption | (refine then_ ?_ (by assumption))))⟩
set_option maxRecDepth 100000 in
set_option maxHeartbeats 4000000 in
theorem indexEvent_yes (H : Option Addr) (p pc : Nat) (ls : List Ev) (w : World) (hp : p ≤ 1048576) (hok : ls.all evB = true) (hs : Rd evC 13 w w.heap.size H p ls) :
    Calls Try.prog 85 #[.slice H p pc, .func (.func 43) #[] #[]] w fun e w' => e = .returned (.int .i64 (-1)) ∧ Below w.heap.size w w' := by
  have HOK := Lib.hid hok
  clear hok
  go_enter Try.func85, Try.ntmps85
  go_wp2
  go_loopw [5, 8] (fun _ i wr => ∃ k : Nat, k ≤ p ∧ i = .int .i64 k ∧ Below w.heap.size w wr) (fun _ i _ => p - (intOf i).toNat)
  case atStart => exact ⟨0, Nat.zero_le _, rfl, Below.refl _ _⟩
  case round =>
    obtain ⟨k, hk, rfl, hw⟩ := hrel
    by_cases hlt : k < p
    · obtain ⟨bb, off, e, rfl, hbl, hx, c0, c1, c2, c3, c4, c5, c6, c7, c8, c9, c10, c11, c12⟩ := (hs.step hw).ev hlt
      have hki : (k : Int) < (p : Int) := by omega
      have hk0 : (0 : Int) ≤ (k : Int) := by omega
      have ho := List.all_eq_true.1 HOK.out _ (List.mem_of_getElem? hx)
      have K := Lib.hid (fun w => eventF_yes e w ho)
      clear hx ho
      go_wp2_with (go_at_call 43; (with_reducible refine (K.out _).mono ?_); rintro e w1 ⟨rfl, hb1⟩)
      go_roundw
      case rel => exact ⟨k + 1, by omega, by go_num, by (repeat (first | with_reducible assumption | exact Below.refl _ _ | (refine Below.setCell ?_ (by first | exact Nat.le_refl _ | (simp; done) | omega | (simp; omega)) _) | (refine below_drewN ?_ _) | (refine Below.drew ?_) | (refine Below.alloc ?_ (by first | exact Nat.le_refl _ | (simp; done) | omega | (simp; omega)) _) | (refine then_ ?_ (by with_reducible assumption)) | assumption | (refine then_ ?_ (by assumption))))⟩
      case measure => simp [intOf]; omega
    · obtain rfl : k = p := by omega
      go_wp2
      go_ret
      exact ⟨rfl, hw⟩
set_option maxHeartbeats 2000000 in
theorem containsEvent_yes (H : Option Addr) (p pc : Nat) (ls : List Ev) (w : World) (hp : p ≤ 1048576) (hok : ls.all evB = true) (hs : Rd evC 13 w w.heap.size H p ls) :
    Calls Try.prog 42 #[.slice H p pc, .func (.func 43) #[] #[]] w fun e w' => e = .returned (.bool false) ∧ Below w.heap.size w w' := by
  go_enter Try.func42, Try.ntmps42
  go_wp2_with (go_at_call 85; refine (indexEvent_yes H p pc ls _ hp hok hs).mono ?_; rintro e w1 ⟨rfl, hb1⟩)
  go_ret
  exact ⟨rfl, hb1⟩
end Go.Proofs.Ytoafldgngbaddaa

/- IsShow: the program's, of shows that are good but for bounds. -/
namespace Go.Proofs.Ytoafldgngbaddaa
open Go.RowKit
attribute [local go_sem] run_store_float run_store_complex

set_option maxHeartbeats 2000000 in
theorem isTumble_big (mir : Int) (gr : Pt) (loss : Nat) (A : Option Addr) (n c : Nat) (w : World) (h8 : 8 < n) (hn : n ≤ 1000) (h1 : inB mir 0 3 = true) (h2 : pointB gr.1 gr.2 = true) (h3 : partB loss = true) :
    Calls Try.prog 41 #[.agg #[.int .i64 mir, .complex .f32 gr.1 gr.2, .float .f32 loss, .slice A n c]] w fun e w' => e = .returned (.bool false) ∧ Below w.heap.size w w' := by
  have hni : (8 : Int) < (n : Int) := by omega
  go_enter Try.func41, Try.ntmps41
  go_wp2_with (first
    | (go_at_call 69; refine (isKind_any _ _).mono ?_; rintro e w' ⟨rfl, rfl⟩; simp only [h1])
    | (go_at_call 68; refine (isPoint_any _ _ _).mono ?_; rintro e w' ⟨rfl, rfl⟩; simp only [h2])
    | (go_at_call 79; refine (isPart_any _ _).mono ?_; rintro e w' ⟨rfl, rfl⟩; simp only [h3]))
  go_ret
  exact ⟨rfl, by (repeat (first | with_reducible assumption | exact Below.refl _ _ | (refine Below.setCell ?_ (by first | exact Nat.le_refl _ | (simp; done) | omega | (simp; omega)) _) | (refine below_drewN ?_ _) | (refine Below.drew ?_) | (refine Below.alloc ?_ (by first | exact Nat.le_refl _ | (simp; done) | omega | (simp; omega)) _) | (refine then_ ?_ (by with_reducible assumption)) | assumption | (refine then_ ?_ (by assumption))))⟩
theorem isTumble_good (mir : Int) (gr : Pt) (loss : Nat) (A : Option Addr) (n c : Nat) (bs : List Bd) (w : World) (hn : n ≤ 1000) (h1 : inB mir 0 3 = true) (h2 : pointB gr.1 gr.2 = true) (h3 : partB loss = true) (ha : Rd bdC 2 w w.heap.size A n bs) :
    Calls Try.prog 41 #[.agg #[.int .i64 mir, .complex .f32 gr.1 gr.2, .float .f32 loss, .slice A n c]] w fun e w' => e = .returned (.bool (tumB mir gr loss bs)) ∧ Below w.heap.size w w' := by
  rcases Nat.lt_or_ge 8 n with h | h
  · have : tumB mir gr loss bs = false := by
      unfold tumB
      have := ha.1
      rw [show decide (bs.length ≤ 8) = false by simp; omega]
      simp
    rw [this]
    exact isTumble_big mir gr loss A n c w h hn h1 h2 h3
  · exact isTumble_any mir gr loss A n c bs w h ha

set_option maxRecDepth 100000 in
set_option maxHeartbeats 8000000 in
theorem isShow_any (s : Shw) (A B L : Option Addr) (n c m d p q : Nat) (w : World) (hg : Good s) (hn : n ≤ 12) (hm : m ≤ 12) (hp : p ≤ 30) (rS : Rd shC 7 w w.heap.size A n s.sh) (rB : Rd bdC 2 w w.heap.size B m s.bs) (rL : Rd evC 13 w w.heap.size L p s.log) :
    Calls Try.prog 15 #[.agg #[.int .i64 s.sz, .float .f32 s.st, .float .f32 s.li.1, .float .f32 s.li.2.1, .float .f32 s.li.2.2, .slice A n c, .int .i64 s.mir, .complex .f32 s.gr.1 s.gr.2, .float .f32 s.loss, .slice B m d, .int .i64 s.tk, .slice L p q]] w fun e w' => e = .returned (.bool (okS s)) ∧ Below w.heap.size w w' := by
  have KA := Lib.hid (fun w h => areShards_yes A n c s.sh w hn hg.sh h)
  have KT := Lib.hid (fun w h => isTumble_good s.mir s.gr s.loss B m d s.bs w (by omega) hg.mir hg.gr hg.loss h)
  have KE := Lib.hid (fun w h => containsEvent_yes L p q s.log w (by omega) hg.log h)
  have hl : (m : Int) = (n : Int) := by have := hg.len; have := rS.1; have := rB.1; omega
  have R := okS_eq hg
  have LP := rL.1
  have h1 := hg.sz
  have h2 := hg.st
  have h3 := hg.li
  clear hg
  go_enter Try.func15, Try.ntmps15
  go_wp2_with fail
  obtain ⟨V, hVe⟩ : ∃ V, V = w.alloc (Obj.cells #[.int .i64 s.sz, .float .f32 s.st, .float .f32 s.li.1, .float .f32 s.li.2.1, .float .f32 s.li.2.2, .slice A n c, .int .i64 s.mir, .complex .f32 s.gr.1 s.gr.2, .float .f32 s.loss, .slice B m d, .int .i64 s.tk, .slice L p q] 33) := ⟨_, rfl⟩
  have ca := CA.new w #[.int .i64 s.sz, .float .f32 s.st, .float .f32 s.li.1, .float .f32 s.li.2.1, .float .f32 s.li.2.2, .slice A n c, .int .i64 s.mir, .complex .f32 s.gr.1 s.gr.2, .float .f32 s.loss, .slice B m d, .int .i64 s.tk, .slice L p q] 33
  rw [← hVe] at ca
  have hV : Below w.heap.size w V := by rw [hVe]; (repeat (first | with_reducible assumption | exact Below.refl _ _ | (refine Below.setCell ?_ (by first | exact Nat.le_refl _ | (simp; done) | omega | (simp; omega)) _) | (refine below_drewN ?_ _) | (refine Below.drew ?_) | (refine Below.alloc ?_ (by first | exact Nat.le_refl _ | (simp; done) | omega | (simp; omega)) _) | (refine then_ ?_ (by with_reducible assumption)) | assumption | (refine then_ ?_ (by assumption))))
  have la := ca.lt
  rw [← hVe]
  clear hVe
  replace rS := rS.step hV
  replace rB := rB.step hV
  replace rL := rL.step hV
  refine (within_any s.sz 1 8 _).mono ?_
  rw [h1]
  rintro e w' ⟨rfl, rfl⟩
  have a1 := ca 1 _ rfl
  have a2 := ca 2 _ rfl
  have a3 := ca 3 _ rfl
  have a4 := ca 4 _ rfl
  go_wp2_with fail
  refine (isStep_any s.st _).mono ?_
  rw [h2]
  rintro e w' ⟨rfl, rfl⟩
  go_wp2_with fail
  refine (isColour_any s.li.1 s.li.2.1 s.li.2.2 _).mono ?_
  rw [show colB (s.li.1, s.li.2.1, s.li.2.2) = true from h3]
  rintro e w1 ⟨rfl, hb⟩
  clear a1 a2 a3 a4
  replace ca := ca.keep hb
  replace rS := rS.step hb
  replace rB := rB.step hb
  replace rL := rL.step hb
  replace hV := then_ hV hb
  replace la := ca.lt
  clear hb
  have a5 := ca 5 _ rfl
  go_wp2_with fail
  (with_reducible refine (KA.out _ rS).mono ?_)
  rintro e w2 ⟨rfl, hb⟩
  clear a5
  replace ca := ca.keep hb
  replace rB := rB.step hb
  replace rL := rL.step hb
  replace hV := then_ hV hb
  replace la := ca.lt
  clear hb rS
  have a6 := ca 6 _ rfl
  have a7 := ca 7 _ rfl
  have a8 := ca 8 _ rfl
  have a9 := ca 9 _ rfl
  go_wp2_with fail
  (with_reducible refine (KT.out _ rB).mono ?_)
  rintro e w3 ⟨rfl, hb⟩
  clear a6 a7 a8 a9
  replace ca := ca.keep hb
  replace rL := rL.step hb
  replace hV := then_ hV hb
  replace la := ca.lt
  clear hb rB
  cases h4 : tumB s.mir s.gr s.loss s.bs
  · rw [h4, Bool.false_and] at R
    go_wp2
    go_ret
    exact ⟨by rw [R]; rfl, hV⟩
  · rw [h4, Bool.true_and] at R
    have a5 := ca 5 _ rfl
    have a9 := ca 9 _ rfl
    have a10 := ca 10 _ rfl
    have a11 := ca 11 _ rfl
    have hne : ((m : Int) != (n : Int)) = false := by rw [hl]; simp
    cases h5 : inB s.tk 0 200
    · rw [h5, Bool.false_and] at R
      go_wp2_with (go_at_call 37; (with_reducible refine (within_any s.tk 0 200 _).mono ?_); rintro e w' ⟨rfl, rfl⟩; simp only [h5])
      go_ret
      exact ⟨by rw [R]; rfl, hV⟩
    · rw [h5, Bool.true_and] at R
      rcases Nat.lt_or_ge 24 p with h | h
      · have hi : (24 : Int) < (p : Int) := by omega
        rw [show decide (s.log.length ≤ 24) = false by simp; omega] at R
        go_wp2_with (go_at_call 37; (with_reducible refine (within_any s.tk 0 200 _).mono ?_); rintro e w' ⟨rfl, rfl⟩; simp only [h5])
        go_ret
        exact ⟨by rw [R]; rfl, hV⟩
      · have hi : ¬ (24 : Int) < (p : Int) := by omega
        rw [show decide (s.log.length ≤ 24) = true by simp; omega] at R
        go_wp2_with (first
          | (go_at_call 37; (with_reducible refine (within_any s.tk 0 200 _).mono ?_); rintro e w' ⟨rfl, rfl⟩; simp only [h5])
          | (go_at_call 42; (with_reducible refine (KE.out _ rL).mono ?_); rintro e w4 ⟨rfl, hb4⟩))
        go_ret
        exact ⟨by rw [R]; rfl, then_ hV hb4⟩
end Go.Proofs.Ytoafldgngbaddaa

/- l6Do: the specification's, a push. -/
namespace Go.Proofs.Ytoafldgngbaddaa
open Go.RowKit
attribute [local go_sem] run_store_float run_store_complex



set_option maxRecDepth 100000 in
set_option maxHeartbeats 4000000 in
theorem sDo_push (s : Shw) (e : Ev) (i : Nat) (zz : Pt) (he : e = .push (i : Int) zz) (hi : i < s.bs.length) (hm : s.bs.length ≤ 1000) (A B L : Option Addr) (c d q base : Nat) (w : World) (hb : base ≤ w.heap.size) (own : OwnS w base s A B L c d q) :
    Calls Try.prog 95 #[.agg #[.int .i64 s.sz, .float .f32 s.st, .float .f32 s.li.1, .float .f32 s.li.2.1, .float .f32 s.li.2.2, .slice A s.sh.length c, .int .i64 s.mir, .complex .f32 s.gr.1 s.gr.2, .float .f32 s.loss, .slice B s.bs.length d, .int .i64 s.tk, .slice L s.log.length q], .agg #[.int .i64 e.k, .int .i64 e.n, .complex .f32 e.z.1 e.z.2, .complex .f32 e.s.1.1 e.s.1.2, .complex .f32 e.s.2.1.1 e.s.2.1.2, .complex .f32 e.s.2.2.1.1 e.s.2.2.1.2, .float .f32 e.s.2.2.2.1.1, .float .f32 e.s.2.2.2.1.2.1, .float .f32 e.s.2.2.2.1.2.2, .float .f32 e.s.2.2.2.2, .float .f32 e.c.1, .float .f32 e.c.2.1, .float .f32 e.c.2.2]] w fun r w' => SHap s e base (OwnB s A B L c d q) w.heap.size r w' ∧ BelF base (OwnB s A B L c d q) w w' := by
  have k1 : (e.k == 1) = false := by rw [he]; rfl
  have k2 : (e.k == 2) = false := by rw [he]; rfl
  have k3 : (e.k == 3) = false := by rw [he]; rfl
  have k4 : (e.k == 4) = false := by rw [he]; rfl
  have k5 : (e.k == 5) = false := by rw [he]; rfl
  have k6 : (e.k == 6) = true := by rw [he]; rfl
  have en : e.n = (i : Int) := by rw [he]; rfl
  have hii : (i : Int) < (s.bs.length : Int) := by omega
  have hi0 : (0 : Int) ≤ (i : Int) := by omega
  have hge : decide ((s.bs.length : Int) ≤ (i : Int)) = false := by simp; omega
  have EN := Lib.hid en
  clear en
  have HE := Lib.hid he
  clear he
  have OWN := Lib.hid own
  clear own
  go_enter Try.func95, Try.ntmps95
  go_upto_region 1 with fail
  have h := hs_new e hb OWN.out #[.int .i64 s.sz, .float .f32 s.st, .float .f32 s.li.1, .float .f32 s.li.2.1, .float .f32 s.li.2.2, .slice A s.sh.length c, .int .i64 s.mir, .complex .f32 s.gr.1 s.gr.2, .float .f32 s.loss, .slice B s.bs.length d, .int .i64 s.tk, .slice L s.log.length q] #[.int .i64 0, .float .f32 0, .float .f32 0, .float .f32 0, .float .f32 0, .slice none 0 0, .int .i64 0, .complex .f32 0 0, .float .f32 0, .slice none 0 0, .int .i64 0, .slice none 0 0] 33 45 33 rfl rfl #[.int .i64 e.k, .int .i64 e.n, .complex .f32 e.z.1 e.z.2, .complex .f32 e.s.1.1 e.s.1.2, .complex .f32 e.s.2.1.1 e.s.2.1.2, .complex .f32 e.s.2.2.1.1 e.s.2.2.1.2, .float .f32 e.s.2.2.2.1.1, .float .f32 e.s.2.2.2.1.2.1, .float .f32 e.s.2.2.2.1.2.2, .float .f32 e.s.2.2.2.2, .float .f32 e.c.1, .float .f32 e.c.2.1, .float .f32 e.c.2.2] rfl
  obtain ⟨W, hWe⟩ : ∃ W, W = ((w.alloc (Obj.cells #[.int .i64 s.sz, .float .f32 s.st, .float .f32 s.li.1, .float .f32 s.li.2.1, .float .f32 s.li.2.2, .slice A s.sh.length c, .int .i64 s.mir, .complex .f32 s.gr.1 s.gr.2, .float .f32 s.loss, .slice B s.bs.length d, .int .i64 s.tk, .slice L s.log.length q] 33)).alloc (Obj.cells #[.int .i64 e.k, .int .i64 e.n, .complex .f32 e.z.1 e.z.2, .complex .f32 e.s.1.1 e.s.1.2, .complex .f32 e.s.2.1.1 e.s.2.1.2, .complex .f32 e.s.2.2.1.1 e.s.2.2.1.2, .float .f32 e.s.2.2.2.1.1, .float .f32 e.s.2.2.2.1.2.1, .float .f32 e.s.2.2.2.1.2.2, .float .f32 e.s.2.2.2.2, .float .f32 e.c.1, .float .f32 e.c.2.1, .float .f32 e.c.2.2] 45)).alloc (Obj.cells #[.int .i64 0, .float .f32 0, .float .f32 0, .float .f32 0, .float .f32 0, .slice none 0 0, .int .i64 0, .complex .f32 0 0, .float .f32 0, .slice none 0 0, .int .i64 0, .slice none 0 0] 33) := ⟨_, rfl⟩
  rw [← hWe] at h
  rw [← hWe]
  clear hWe hb OWN
  have lx := h.lt
  have a0 := h.cx 0 _ rfl; have a1 := h.cx 1 _ rfl; have a2 := h.cx 2 _ rfl; have a3 := h.cx 3 _ rfl; have a4 := h.cx 4 _ rfl; have a5 := h.cx 5 _ rfl; have a6 := h.cx 6 _ rfl; have a7 := h.cx 7 _ rfl; have a8 := h.cx 8 _ rfl; have a9 := h.cx 9 _ rfl; have a10 := h.cx 10 _ rfl; have a11 := h.cx 11 _ rfl
  have y0 := h.cy 0 _ rfl; have y1 := h.cy 1 _ rfl; have y2 := h.cy 2 _ rfl; have y3 := h.cy 3 _ rfl; have y4 := h.cy 4 _ rfl; have y5 := h.cy 5 _ rfl; have y6 := h.cy 6 _ rfl; have y7 := h.cy 7 _ rfl; have y8 := h.cy 8 _ rfl; have y9 := h.cy 9 _ rfl; have y10 := h.cy 10 _ rfl; have y11 := h.cy 11 _ rfl; have y12 := h.cy 12 _ rfl
  rw [EN.out] at y1
  obtain ⟨bb, off, a, v, hB, hbl, hx, x0, x1⟩ := (h.own.rd.2.1).bd hi
  obtain ⟨g, hB', hmd, hdm⟩ := owns_slice_at h.own.2.1 (by omega)
  rw [hB] at hB'
  injection hB' with hB'
  injection hB' with hB1 hB2
  subst hB1 hB2 hB
  rw [Nat.zero_add] at x0 x1
  have K1 := Lib.hid (fun w => specPlus_any v e.z w)
  have fB := h.own.2.1.frozenAt (i * 2 + 1)
  go_upto_region 22 with fail
  have lx0 : w.heap.size < W.heap.size := by omega
  have lx1 : w.heap.size + 1 < W.heap.size := by omega
  refine wp_region_T (fun v => ∀ b o, b < W.heap.size → v.cell? ⟨b, o, none⟩ = W.cell? ⟨b, o, none⟩) (fun j => decide (14 ≤ j)) (by kernel_rfl) (fun _ _ _ => rfl) (fun hHeld => ?_)
  refine wpAnyT_take (i := 0) (v := .slice (some ⟨bb, 0, none⟩) s.bs.length d) rfl (by kernel_rfl) (by kernel_rfl) (by kernel_rfl) (by kernel_rfl) (fun _ _ _ h => h) (Or.inl ⟨by rfl, (by intro wz hSz; (try dsimp only at hSz); go_simp)⟩) hHeld ?_; try simp only [Act.put, List.getElem_toArray, List.getElem_cons_zero, List.setIfInBounds_toArray, List.set_cons_zero, List.set_cons_succ]; refine wpAnyT_take (i := 1) (v := .pointer (some ⟨w.heap.size + 1, 1, none⟩)) rfl (by kernel_rfl) (by kernel_rfl) (by kernel_rfl) (by kernel_rfl) (fun _ _ _ h => h) (Or.inl ⟨by rfl, (by intro wz hSz; (try dsimp only at hSz); go_simp)⟩) hHeld ?_; try simp only [Act.put, List.getElem_toArray, List.getElem_cons_succ, List.getElem_cons_zero, List.setIfInBounds_toArray, List.set_cons_zero, List.set_cons_succ]; refine wpAnyT_take (i := 2) (v := .int .i64 (i : Int)) rfl (by kernel_rfl) (by kernel_rfl) (by kernel_rfl) (by kernel_rfl) (fun _ _ _ h => h) (Or.inl ⟨by rfl, (by intro wz hSz; (try dsimp only at hSz); go_simp)⟩) hHeld ?_; try simp only [Act.put, List.getElem_toArray, List.getElem_cons_succ, List.getElem_cons_zero, List.setIfInBounds_toArray, List.set_cons_zero, List.set_cons_succ]; refine wpAnyT_take (i := 3) (v := .slice (some ⟨bb, 0, none⟩) s.bs.length d) rfl (by kernel_rfl) (by kernel_rfl) (by kernel_rfl) (by kernel_rfl) (fun _ _ _ h => h) (Or.inl ⟨by rfl, (by intro wz hSz; (try dsimp only at hSz); go_simp)⟩) hHeld ?_; try simp only [Act.put, List.getElem_toArray, List.getElem_cons_succ, List.getElem_cons_zero, List.setIfInBounds_toArray, List.set_cons_zero, List.set_cons_succ]; refine wpAnyT_take (i := 4) (v := .pointer (some ⟨w.heap.size + 1, 1, none⟩)) rfl (by kernel_rfl) (by kernel_rfl) (by kernel_rfl) (by kernel_rfl) (fun _ _ _ h => h) (Or.inl ⟨by rfl, (by intro wz hSz; (try dsimp only at hSz); go_simp)⟩) hHeld ?_; try simp only [Act.put, List.getElem_toArray, List.getElem_cons_succ, List.getElem_cons_zero, List.setIfInBounds_toArray, List.set_cons_zero, List.set_cons_succ]; refine wpAnyT_take (i := 5) (v := .int .i64 (i : Int)) rfl (by kernel_rfl) (by kernel_rfl) (by kernel_rfl) (by kernel_rfl) (fun _ _ _ h => h) (Or.inl ⟨by rfl, (by intro wz hSz; (try dsimp only at hSz); go_simp)⟩) hHeld ?_; try simp only [Act.put, List.getElem_toArray, List.getElem_cons_succ, List.getElem_cons_zero, List.setIfInBounds_toArray, List.set_cons_zero, List.set_cons_succ]; refine wpAnyT_take (i := 6) (v := .pointer (some ⟨bb, i * 2, none⟩)) rfl (by kernel_rfl) (by kernel_rfl) (by kernel_rfl) (by kernel_rfl) (fun _ _ _ h => h) (Or.inl ⟨by rfl, (by intro wz hSz; (try dsimp only at hSz); go_simp)⟩) hHeld ?_; try simp only [Act.put, List.getElem_toArray, List.getElem_cons_succ, List.getElem_cons_zero, List.setIfInBounds_toArray, List.set_cons_zero, List.set_cons_succ]; refine wpAnyT_take (i := 7) (v := .pointer (some ⟨bb, i * 2 + 1, none⟩)) rfl (by kernel_rfl) (by kernel_rfl) (by kernel_rfl) (by kernel_rfl) (fun _ _ _ h => h) (Or.inl ⟨by rfl, (by intro wz hSz; (try dsimp only at hSz); go_simp)⟩) hHeld ?_; try simp only [Act.put, List.getElem_toArray, List.getElem_cons_succ, List.getElem_cons_zero, List.setIfInBounds_toArray, List.set_cons_zero, List.set_cons_succ]; refine wpAnyT_take (i := 8) (v := .complex .f32 v.1 v.2) rfl (by kernel_rfl) (by kernel_rfl) (by kernel_rfl) (by kernel_rfl) (fun _ _ _ h => h) (Or.inl ⟨by rfl, (by intro wz hSz; (try dsimp only at hSz); go_simp)⟩) hHeld ?_; try simp only [Act.put, List.getElem_toArray, List.getElem_cons_succ, List.getElem_cons_zero, List.setIfInBounds_toArray, List.set_cons_zero, List.set_cons_succ]; refine wpAnyT_take (i := 9) (v := .pointer (some ⟨w.heap.size + 1, 2, none⟩)) rfl (by kernel_rfl) (by kernel_rfl) (by kernel_rfl) (by kernel_rfl) (fun _ _ _ h => h) (Or.inl ⟨by rfl, (by intro wz hSz; (try dsimp only at hSz); go_simp)⟩) hHeld ?_; try simp only [Act.put, List.getElem_toArray, List.getElem_cons_succ, List.getElem_cons_zero, List.setIfInBounds_toArray, List.set_cons_zero, List.set_cons_succ]; refine wpAnyT_take (i := 10) (v := .complex .f32 e.z.1 e.z.2) rfl (by kernel_rfl) (by kernel_rfl) (by kernel_rfl) (by kernel_rfl) (fun _ _ _ h => h) (Or.inl ⟨by rfl, (by intro wz hSz; (try dsimp only at hSz); go_simp)⟩) hHeld ?_; try simp only [Act.put, List.getElem_toArray, List.getElem_cons_succ, List.getElem_cons_zero, List.setIfInBounds_toArray, List.set_cons_zero, List.set_cons_succ]
  refine wpAnyT_one (i := 11) (by kernel_rfl) rfl (fun K hK => ?_)
  go_simp
  go_at_call 97
  (with_reducible refine (K1.out _).mono ?_)
  rintro r w' ⟨rfl, n1, rfl⟩
  go_wp2_with fail
  refine hK.out _ _ (fun _ b o h => rfl) (fun hH => ?_)
  have hHeld := hH rfl
  clear hK K hH
  try simp only [Act.put, List.setIfInBounds_toArray, List.set_cons_zero, List.set_cons_succ]
  refine wpAnyT_take (i := 12) (v := .pointer (some ⟨bb, i * 2, none⟩)) rfl (by kernel_rfl) (by kernel_rfl) (by kernel_rfl) (by kernel_rfl) (fun _ _ _ h => h) (Or.inl ⟨by rfl, (by intro wz hSz; (try dsimp only at hSz); go_simp)⟩) hHeld ?_; try simp only [Act.put, List.getElem_toArray, List.getElem_cons_succ, List.getElem_cons_zero, List.setIfInBounds_toArray, List.set_cons_zero, List.set_cons_succ]; refine wpAnyT_take (i := 13) (v := .pointer (some ⟨bb, i * 2 + 1, none⟩)) rfl (by kernel_rfl) (by kernel_rfl) (by kernel_rfl) (by kernel_rfl) (fun _ _ _ h => h) (Or.inl ⟨by rfl, (by intro wz hSz; (try dsimp only at hSz); go_simp)⟩) hHeld ?_; try simp only [Act.put, List.getElem_toArray, List.getElem_cons_succ, List.getElem_cons_zero, List.setIfInBounds_toArray, List.set_cons_zero, List.set_cons_succ]
  refine wpAnyT_one (i := 14) (by kernel_rfl) rfl (fun K hK => ?_)
  go_simp
  refine hK.out _ _ (fun e => by cases e) (fun hH => ?_)
  clear hK K hH
  try simp only [Act.put, List.setIfInBounds_toArray, List.set_cons_zero, List.set_cons_succ]
  refine wpAnyT_end (by kernel_rfl) ?_ _
  go_upto_region 23 with fail
  clear a0 a1 a2 a3 a4 a5 a6 a7 a8 a9 a10 a11 y0 y1 y2 y3 y4 y5 y6 y7 y8 y9 y10 y11 y12 x0 x1 fB hHeld
  replace h := (h.drew_ (1 + n1)).setV hx (plusP v e.z)
  obtain ⟨U, hUe⟩ : ∃ U, U = ((W.drewN (1 + n1)).setCell ⟨bb, i * 2 + 1, none⟩ (.complex .f32 (plusP v e.z).1 (plusP v e.z).2)) := ⟨_, rfl⟩
  rw [← hUe] at h
  rw [← hUe]
  clear hUe
  have HX := Lib.hid hx
  clear hx K1 lx lx0 lx1 hbl
  have ht : hap s e = some { s with bs := s.bs.set i (a, plusP v e.z) } := by
    rw [HE.out]
    simp only [hap]
    rw [if_pos hii, Int.toNat_natCast, modify_set _ HX.out]
    rfl
  have HT := Lib.hid ht
  clear ht
  have a0 := h.cx 0 _ rfl; have a1 := h.cx 1 _ rfl; have a2 := h.cx 2 _ rfl; have a3 := h.cx 3 _ rfl; have a4 := h.cx 4 _ rfl; have a5 := h.cx 5 _ rfl; have a6 := h.cx 6 _ rfl; have a7 := h.cx 7 _ rfl; have a8 := h.cx 8 _ rfl; have a9 := h.cx 9 _ rfl; have a10 := h.cx 10 _ rfl; have a11 := h.cx 11 _ rfl
  have o0 := h.co 0 _ rfl; have o1 := h.co 1 _ rfl; have o2 := h.co 2 _ rfl; have o3 := h.co 3 _ rfl; have o4 := h.co 4 _ rfl; have o5 := h.co 5 _ rfl; have o6 := h.co 6 _ rfl; have o7 := h.co 7 _ rfl; have o8 := h.co 8 _ rfl; have o9 := h.co 9 _ rfl; have o10 := h.co 10 _ rfl; have o11 := h.co 11 _ rfl
  have fo : FA _ (w.heap.size + 1 + 1) := h.fo
  have g0 := fo 0; have g1 := fo 1; have g2 := fo 2; have g3 := fo 3; have g4 := fo 4; have g5 := fo 5; have g6 := fo 6; have g7 := fo 7; have g8 := fo 8; have g9 := fo 9; have g10 := fo 10; have g11 := fo 11
  have lx := h.lt
  go_wp2
  have hz := ((((((((((((h.puto 0 (.int .i64 (({ s with bs := s.bs.set i (a, plusP v e.z) } : Shw)).sz)).puto 1 (.float .f32 (({ s with bs := s.bs.set i (a, plusP v e.z) } : Shw)).st)).puto 2 (.float .f32 (({ s with bs := s.bs.set i (a, plusP v e.z) } : Shw)).li.1)).puto 3 (.float .f32 (({ s with bs := s.bs.set i (a, plusP v e.z) } : Shw)).li.2.1)).puto 4 (.float .f32 (({ s with bs := s.bs.set i (a, plusP v e.z) } : Shw)).li.2.2)).puto 5 (.slice A s.sh.length c)).puto 6 (.int .i64 (({ s with bs := s.bs.set i (a, plusP v e.z) } : Shw)).mir)).puto 7 (.complex .f32 (({ s with bs := s.bs.set i (a, plusP v e.z) } : Shw)).gr.1 (({ s with bs := s.bs.set i (a, plusP v e.z) } : Shw)).gr.2)).puto 8 (.float .f32 (({ s with bs := s.bs.set i (a, plusP v e.z) } : Shw)).loss)).puto 9 (.slice (some ⟨bb, 0, none⟩) s.bs.length d)).puto 10 (.int .i64 (({ s with bs := s.bs.set i (a, plusP v e.z) } : Shw)).tk)).puto 11 (.slice L s.log.length q))
  have co : CA _ (w.heap.size + 1 + 1) _ := hz.co
  have own := hz.own
  have bel := hz.bel
  have hin := And.intro hz.iA (And.intro hz.iB hz.iL)
  clear hz
  have z0 := co 0 _ rfl; have z1 := co 1 _ rfl; have z2 := co 2 _ rfl; have z3 := co 3 _ rfl; have z4 := co 4 _ rfl; have z5 := co 5 _ rfl; have z6 := co 6 _ rfl; have z7 := co 7 _ rfl; have z8 := co 8 _ rfl; have z9 := co 9 _ rfl; have z10 := co 10 _ rfl; have z11 := co 11 _ rfl
  refine bodyPost_ret (v := .tuple #[.agg #[.int .i64 (({ s with bs := s.bs.set i (a, plusP v e.z) } : Shw)).sz, .float .f32 (({ s with bs := s.bs.set i (a, plusP v e.z) } : Shw)).st, .float .f32 (({ s with bs := s.bs.set i (a, plusP v e.z) } : Shw)).li.1, .float .f32 (({ s with bs := s.bs.set i (a, plusP v e.z) } : Shw)).li.2.1, .float .f32 (({ s with bs := s.bs.set i (a, plusP v e.z) } : Shw)).li.2.2, .slice A s.sh.length c, .int .i64 (({ s with bs := s.bs.set i (a, plusP v e.z) } : Shw)).mir, .complex .f32 (({ s with bs := s.bs.set i (a, plusP v e.z) } : Shw)).gr.1 (({ s with bs := s.bs.set i (a, plusP v e.z) } : Shw)).gr.2, .float .f32 (({ s with bs := s.bs.set i (a, plusP v e.z) } : Shw)).loss, .slice (some ⟨bb, 0, none⟩) s.bs.length d, .int .i64 (({ s with bs := s.bs.set i (a, plusP v e.z) } : Shw)).tk, .slice L s.log.length q], .bool true]) (by simp [results, Try.results95, go_sem, z0, z1, z2, z3, z4, z5, z6, z7, z8, z9, z10, z11]) rfl ⟨?_, bel⟩
  exact sHap_yes (t := { s with bs := s.bs.set i (a, plusP v e.z) }) own hin (by simp) rfl HT.out
end Go.Proofs.Ytoafldgngbaddaa
