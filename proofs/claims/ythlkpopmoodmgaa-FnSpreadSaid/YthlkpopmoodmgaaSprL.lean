
/- Spread pictures in plain Lean: finite checks over kinds, sizes, cells. -/
import Derived.Test.YthlkpopmoodmgaaPicL
import Derived.Test.YthlkpopmoodmgaaDrawPic
import Derived.Test.YthlkpopmoodmgaaFirsts
import Derived.Test.YthlkpopmoodmgaaOrb
import Derived.Test.YthlkpopmoodmgaaMirS
namespace Go.Proofs.Ythlkpopmoodmgaa

def sprOk (kind q : Nat) : Bool :=
  (List.range ((q + 1) * (q + 1))).all (fun k => decide (firstI (kind : Int) ((q : Int) + 1) (firstI (kind : Int) ((q : Int) + 1) (k : Int)) = firstI (kind : Int) ((q : Int) + 1) (k : Int)) &&
    (symsL (kind : Int)).all (fun g => decide (firstI (kind : Int) ((q : Int) + 1) (cellI ((q : Int) + 1) (k : Int) g.1 g.2) = firstI (kind : Int) ((q : Int) + 1) (k : Int)))) &&
  (firstsL (kind : Int) ((q : Int) + 1)).all (fun c => decide (0 ≤ c) && decide (c < ((q : Int) + 1) * ((q : Int) + 1)) && decide (firstI (kind : Int) ((q : Int) + 1) c = c)) &&
  decide (((firstsL (kind : Int) ((q : Int) + 1)).map (fun c => (orbL (kind : Int) (ptI ((q : Int) + 1) c)).length)).sum = (q + 1) * (q + 1))
theorem spr_all : ∀ kind : Nat, kind < 4 → ∀ q : Nat, q < 5 → sprOk kind q = true := by decide +kernel

theorem spr_facts {kind q : Nat} (hk : kind < 4) (hq : q < 5) :
    (∀ k : Nat, k < (q + 1) * (q + 1) → firstI (kind : Int) ((q : Int) + 1) (firstI (kind : Int) ((q : Int) + 1) (k : Int)) = firstI (kind : Int) ((q : Int) + 1) (k : Int) ∧
      ∀ g ∈ symsL (kind : Int), firstI (kind : Int) ((q : Int) + 1) (cellI ((q : Int) + 1) (k : Int) g.1 g.2) = firstI (kind : Int) ((q : Int) + 1) (k : Int)) ∧
    (∀ c ∈ firstsL (kind : Int) ((q : Int) + 1), 0 ≤ c ∧ c < ((q : Int) + 1) * ((q : Int) + 1) ∧ firstI (kind : Int) ((q : Int) + 1) c = c) ∧
    ((firstsL (kind : Int) ((q : Int) + 1)).map (fun c => (orbL (kind : Int) (ptI ((q : Int) + 1) c)).length)).sum = (q + 1) * (q + 1) := by
  have h := spr_all kind hk q hq
  unfold sprOk at h
  rw [Bool.and_eq_true, Bool.and_eq_true] at h
  obtain ⟨⟨h1, h2⟩, h3⟩ := h
  refine ⟨fun k hk => ?_, fun c hc => ?_, of_decide_eq_true h3⟩
  · have := List.all_eq_true.1 h1 k (List.mem_range.2 hk)
    rw [Bool.and_eq_true] at this
    exact ⟨of_decide_eq_true this.1, fun g hg => of_decide_eq_true (List.all_eq_true.1 this.2 g hg)⟩
  · have := List.all_eq_true.1 h2 c hc
    rw [Bool.and_eq_true, Bool.and_eq_true] at this
    exact ⟨of_decide_eq_true this.1.1, of_decide_eq_true this.1.2, of_decide_eq_true this.2⟩

def fiN (kind q k : Nat) : Nat := (firstI (kind : Int) ((q : Int) + 1) (k : Int)).toNat
theorem fiN_eq {kind q k : Nat} (hq : q < 8) (hk : k < (q + 1) * (q + 1)) : firstI (kind : Int) ((q : Int) + 1) (k : Int) = (fiN kind q k : Nat) ∧ fiN kind q k ≤ k := by
  have h := firstI_bd (kind := (kind : Int)) (okCell_of q k hq hk)
  unfold fiN
  omega
theorem spread_at {kind q k : Nat} {xs : List Col} (hp : Pic q xs) (hk : k < xs.length) : (spreadUp (kind : Int) ((q : Int) + 1) xs xs.length)[k]? = xs[fiN kind q k]? := by
  have hk' : k < (q + 1) * (q + 1) := by rw [← hp.2.1]; exact hk
  have h := (fiN_eq (kind := kind) hp.1 hk').2
  have hj : fiN kind q k < xs.length := by omega
  unfold spreadUp
  rw [List.getElem?_map, List.getElem?_range hk]
  simp only [Option.map_some]
  have e : (firstI (kind : Int) ((q : Int) + 1) (k : Int)).toNat = fiN kind q k := rfl
  rw [e, List.getD_eq_getElem?_getD, List.getElem?_eq_getElem hj]
  rfl
theorem fiN_idem {kind q k : Nat} (hk4 : kind < 4) (hq : q < 5) (hk : k < (q + 1) * (q + 1)) : fiN kind q (fiN kind q k) = fiN kind q k := by
  have h := ((spr_facts hk4 hq).1 k hk).1
  have e := (fiN_eq (kind := kind) (show q < 8 by omega) hk).1
  rw [e] at h
  show (firstI (kind : Int) ((q : Int) + 1) ((fiN kind q k : Nat) : Int)).toNat = fiN kind q k
  rw [h]
  exact Int.toNat_natCast _
theorem fiN_to {kind q k : Nat} {g : Int × Bool} (hk4 : kind < 4) (hq : q < 5) (hk : k < (q + 1) * (q + 1)) (hg : g ∈ symsL (kind : Int)) : fiN kind q (toN q k g) = fiN kind q k := by
  have h := ((spr_facts hk4 hq).1 k hk).2 g hg
  have hg3 : inB g.1 0 3 = true := symsL_ok g (symsL_in kind hk4 g hg)
  rw [(toN_ok (show q < 8 by omega) hk hg3).1] at h
  unfold fiN
  rw [h]
theorem spr_same {kind q : Nat} {xs ys : List Col} (hk4 : kind < 4) (hq : q < 5) (hp : Pic q xs) (hy : ys = spreadUp (kind : Int) ((q : Int) + 1) xs xs.length) :
    sameP ((q : Int) + 1) ys ((q : Int) + 1) (spreadUp (kind : Int) ((q : Int) + 1) ys ys.length) = true := by
  have hpy : Pic q ys := by rw [hy]; exact (spread_pic hp hk4).2
  have hpz := (spread_pic hpy hk4).2
  have hl : ys.length = xs.length := by rw [hpy.2.1, hp.2.1]
  rw [sameP_iff hpy.2.2 hpz.2.2 (by rw [spreadUp_len])]
  intro k hk
  have hk' : k < (q + 1) * (q + 1) := by rw [← hpy.2.1]; exact hk
  have hf := (fiN_eq (kind := kind) hp.1 hk').2
  unfold atK
  rw [spread_at hpy hk, hy, spread_at hp (by omega), spread_at hp (by omega), fiN_idem hk4 hq hk']
theorem spr_mir {kind q : Nat} {xs ys : List Col} (hk4 : kind < 4) (hq : q < 5) (hp : Pic q xs) (hy : ys = spreadUp (kind : Int) ((q : Int) + 1) xs xs.length) : (kind : Int) ≤ mirI ((q : Int) + 1) ys := by
  have hpy : Pic q ys := by rw [hy]; exact (spread_pic hp hk4).2
  have hl : ys.length = xs.length := by rw [hpy.2.1, hp.2.1]
  rw [mirI_eq]
  have hok : okA ((q : Int) + 1) ys kind = true := by
    unfold okA
    rw [pic_ok hpy, Bool.true_and, List.all_eq_true]
    intro g hg
    have hg3 : inB g.1 0 3 = true := symsL_ok g (symsL_in kind hk4 g hg)
    rw [keep_iff hpy hg3]
    intro k hk
    have hk' : k < (q + 1) * (q + 1) := by rw [← hpy.2.1]; exact hk
    have ht := to_lt hpy hg3 hk
    unfold atK
    rw [hy, spread_at hp (by omega), spread_at hp (by omega), fiN_to hk4 hq hk' hg]
  have key : ∀ n, kind < n → (kind : Int) ≤ lastUp (okA ((q : Int) + 1) ys) (-1) n := by
    intro n
    induction n with
    | zero => intro h; omega
    | succ n ih =>
      intro h
      cases hn : okA ((q : Int) + 1) ys n
      · rw [lastUp_no hn]
        refine ih ?_
        by_cases e : kind = n
        · subst e; rw [hok] at hn; cases hn
        · omega
      · rw [lastUp_yes hn]; omega
  exact key 4 hk4
theorem spr_first {kind q : Nat} {xs ys : List Col} (hk4 : kind < 4) (hq : q < 5) (hp : Pic q xs) (hy : ys = spreadUp (kind : Int) ((q : Int) + 1) xs xs.length) {c : Int} (hc : c ∈ firstsL (kind : Int) ((q : Int) + 1)) :
    ∃ k : Nat, c = (k : Int) ∧ k < xs.length ∧ okCell ((q : Int) + 1) (k : Int) = true ∧ ys[k]? = xs[k]? := by
  obtain ⟨h0, h1, h2⟩ := (spr_facts hk4 hq).2.1 c hc
  obtain ⟨k, rfl⟩ := Int.eq_ofNat_of_zero_le h0
  have hk : k < (q + 1) * (q + 1) := by
    have e : (((q + 1) * (q + 1) : Nat) : Int) = ((q : Int) + 1) * ((q : Int) + 1) := by rw [Int.natCast_mul]; rfl
    omega
  refine ⟨k, rfl, by rw [hp.2.1]; exact hk, okCell_of q k (by omega) hk, ?_⟩
  rw [hy, spread_at hp (by rw [hp.2.1]; exact hk)]
  unfold fiN
  rw [h2]; simp
end Go.Proofs.Ythlkpopmoodmgaa
