
/- A region whose own stores hit cells that it loads: a load may be taken first where the stores wait for it. No program. -/
import Derived.Deep.RegionHeld3
namespace Go.Proofs.Ytchkcleenmoajaa
section
variable {P : Program} {ops : Array Oper} {Q : Exit → Act → World → Prop} {md : Region.Mode} {S : World → Prop} {T : Nat → Bool}

/-- whatever order is picked: behind each operation that T does not name S holds -/
def wpAnyT (P : Program) (md : Region.Mode) (ops : Array Oper) (Q : Exit → Act → World → Prop) (S : World → Prop) (T : Nat → Bool) : Nat → Array Bool → Act → World → Prop
  | 0, l, a, w => Region.ready md ops l = [] ∧ Q .normal a w
  | n + 1, l, a, w => (Region.ready md ops l = [] → Q .normal a w) ∧
      ∀ i ∈ Region.ready md ops l, wpOp P ops Q i (fun b v => (T i = false → S v) ∧ wpAnyT P md ops Q S T n (l.setIfInBounds i true) b v) a w
theorem wpAnyT_any : ∀ (n : Nat) (l : Array Bool) (a : Act) (w : World), wpAnyT P md ops Q S T n l a w → wpAny P md ops Q n l a w
  | 0, _, _, _, h => h
  | n + 1, _, _, _, h => ⟨h.1, fun i hi => wpOp_mono (fun b v k => wpAnyT_any n _ b v k.2) (h.2 i hi)⟩
/-- number j waits for number i, itself or by others -/
def needs (md : Region.Mode) (ops : Array Oper) : Nat → Nat → Nat → Bool
  | 0, _, _ => false
  | n + 1, j, i => ((ops[j]?).map (fun o => o.after.any (fun e => Region.binds md e && (e.on == i || needs md ops n e.on i)))).getD false
/-- what has come up is closed under what it waited for -/
def Cl (md : Region.Mode) (ops : Array Oper) (l : Array Bool) : Prop := ∀ (j : Nat) (o : Oper), ops[j]? = some o → l.getD j false = true → ∀ e ∈ o.after, Region.binds md e = true → l.getD e.on false = true
def clB (md : Region.Mode) (ops : Array Oper) (l : Array Bool) : Bool := (List.range ops.size).all fun j => !(l.getD j false) || ((ops[j]?).map (fun o => o.after.all (fun e => !(Region.binds md e) || l.getD e.on false))).getD true
theorem clB_spec {l : Array Bool} (h : clB md ops l = true) : Cl md ops l := by
  intro j o hj hl e he hb
  have k := List.all_eq_true.1 h j (List.mem_range.2 (Array.getElem?_eq_some_iff.1 hj).1)
  rw [hl, hj] at k
  simp only [Bool.not_true, Bool.false_or, Option.map_some, Option.getD_some] at k
  have m := Array.all_eq_true'.1 k e he
  rw [hb] at m
  simpa using m
theorem cl_set {l : Array Bool} {j : Nat} (h : Cl md ops l) (hj : j ∈ Region.ready md ops l) : Cl md ops (l.setIfInBounds j true) := by
  obtain ⟨_, o, ho, al⟩ := mem_ready.1 hj
  intro k o' hk hl e he hb
  rcases Decidable.em (j = k) with rfl | ne
  · rw [hk] at ho
    injection ho with ho
    subst ho
    exact getD_set_true (al e he hb)
  · rw [getD_set_ne false ne] at hl
    exact getD_set_true (h k o' hk hl e he hb)
theorem needs_listed {l : Array Bool} (h : Cl md ops l) {i : Nat} : ∀ (n : Nat) (j : Nat) (o : Oper), ops[j]? = some o → (∀ e ∈ o.after, Region.binds md e = true → l.getD e.on false = true) → needs md ops n j i = true → l.getD i false = true
  | 0, _, _, _, _, k => by cases k
  | n + 1, j, o, ho, al, k => by
    unfold needs at k
    rw [ho] at k
    simp only [Option.map_some, Option.getD_some] at k
    obtain ⟨e, he, m⟩ := Array.any_eq_true'.1 k
    simp only [Bool.and_eq_true, Bool.or_eq_true, beq_iff_eq] at m
    have le := al e he m.1
    rcases m.2 with q | q
    · rw [← q]; exact le
    · cases hx : ops[e.on]? with
      | none =>
        cases n with
        | zero => cases q
        | succ n =>
          unfold needs at q
          rw [hx] at q
          cases q
      | some x => exact needs_listed h n e.on x hx (fun e' he' hb' => h e.on x hx le e' he' hb') q
/-- every operation that T names waits for number i -/
def waitsB (md : Region.Mode) (ops : Array Oper) (T : Nat → Bool) (i : Nat) : Bool := (List.range ops.size).all fun j => !(T j) || needs md ops 8 j i
theorem wpAnyT_front {i : Nat} {oi : Oper} {v : Value} (hi : ops[i]? = some oi) (hs : ∀ (j : Nat) (o : Oper) cs b, ops[j]? = some o → o.op ≠ .select cs b) (hw : waitsB md ops T i = true)
    (hQ : ∀ c a w, Q (.panic c) (a.put oi.dst v) w → Q (.panic c) a w) : ∀ (n : Nat) (l : Array Bool) (a : Act) (w : World), Cl md ops l →
      (∀ j o, ops[j]? = some o → j ≠ i → l.getD j true = false → (∀ e ∈ o.after, Region.binds md e = true → e.on ≠ i) → oi.apart ops o = true) →
      i ∈ Region.ready md ops l → YieldsIf P ops S oi v a → S w → wpAnyT P md ops Q S T n (l.setIfInBounds i true) (a.put oi.dst v) w → wpAnyT P md ops Q S T (n + 1) l a w := by
  intro n
  induction n with
  | zero =>
    intro l a w _ _ hr hy hS H
    refine ⟨fun e => absurd hr (by rw [e]; simp), fun j hj => ?_⟩
    rcases Decidable.em (j = i) with rfl | ne
    · exact hy.wpOp hi hS ⟨fun _ => hS, H⟩
    · have k := ready_mono hj ne
      rw [H.1] at k
      cases k
  | succ n ih =>
    intro l a w cl free hr hy hS H
    refine ⟨fun e => absurd hr (by rw [e]; simp), fun j hj => ?_⟩
    rcases Decidable.em (j = i) with rfl | ne
    · exact hy.wpOp hi hS ⟨fun _ => hS, H⟩
    · obtain ⟨ju, o, ho, al⟩ := mem_ready.1 hj
      have iu : ¬ l.getD i false = true := by
        have k := (mem_ready.1 hr).1
        rcases Nat.lt_or_ge i l.size with x | x
        · simp [x] at k ⊢; exact k
        · simp [Array.getElem?_eq_none x]
      have nw : ∀ e ∈ o.after, Region.binds md e = true → e.on ≠ i := fun e he hb q => iu (by rw [← q]; exact al e he hb)
      have tj : T j = false := by
        cases ht : T j
        · rfl
        · have k := List.all_eq_true.1 hw j (List.mem_range.2 (Array.getElem?_eq_some_iff.1 ho).1)
          rw [ht] at k
          exact absurd (needs_listed cl 8 j o ho al (by simpa using k)) iu
      have k := wpOp_putIf ho (free j o ho ne ju nw) (fun cs b => hs i oi cs b hi) (fun cs b => hs j o cs b ho) hQ hy (H.2 j (ready_mono hj ne))
      refine wpOp_mono (fun b u m => ⟨m.2.1, ih _ b u (cl_set cl hj) ?_ (ready_mono hr (Ne.symm ne)) m.1 (m.2.1 tj) ?_⟩) k
      · intro k' o' hk' nk ku nw'
        refine free k' o' hk' nk ?_ nw'
        rcases Decidable.em (j = k') with rfl | ne'
        · exact ju
        · rwa [getD_set_ne true ne'] at ku
      · rw [Array.setIfInBounds_comm _ _ ne]
        exact m.2.2
theorem wpAnyT_take {i : Nat} {oi : Oper} {v : Value} {n : Nat} {l : Array Bool} {a : Act} {w : World} (hi : ops[i]? = some oi) (hs : Region.noSelect ops = true) (hf : Region.free md ops l i = true)
    (hr : (Region.ready md ops l).contains i = true) (hw : (waitsB md ops T i && clB md ops l) = true) (hQ : ∀ c a w, Q (.panic c) (a.put oi.dst v) w → Q (.panic c) a w) (hy : YieldsIf P ops S oi v a) (hS : S w)
    (h : wpAnyT P md ops Q S T n (l.setIfInBounds i true) (a.put oi.dst v) w) : wpAnyT P md ops Q S T (n + 1) l a w := by
  rw [Bool.and_eq_true] at hw
  exact wpAnyT_front hi (Region.noSelect_spec hs) hw.1 hQ n l a w (clB_spec hw.2) (Region.free_spec hi hf) (by simpa using hr) hy hS h
/-- one operation alone may come up -/
theorem wpAnyT_one {i : Nat} {o : Oper} {n : Nat} {l : Array Bool} {a : Act} {w : World} (hr : Region.ready md ops l = [i]) (ho : ops[i]? = some o)
    (h : ∀ K : Act → World → Prop, Shut (∀ b v, (T i = false → S v) → ((T i = false → S v) → wpAnyT P md ops Q S T n (l.setIfInBounds i true) b v) → K b v) → if Region.wanted o (yielded ops a.tmps) = true then Oper.wp P o a w K Q else K (a.put o.dst undef) w) :
    wpAnyT P md ops Q S T (n + 1) l a w := by
  refine ⟨fun e => absurd e (by rw [hr]; simp), fun j hj => ?_⟩
  rw [hr, List.mem_singleton] at hj
  subst hj
  exact wpOp_step ho (fun K hK => h K (fun b v h1 h2 => hK b v ⟨h1, h2 h1⟩))
theorem wpAnyT_end {l : Array Bool} {a : Act} {w : World} (hr : Region.ready md ops l = []) (h : Q .normal a w) : ∀ n, wpAnyT P md ops Q S T n l a w
  | 0 => ⟨hr, h⟩
  | _ + 1 => ⟨fun _ => h, by rw [hr]; simp⟩
theorem wp_region_T {id : Nat} {a : Act} {w : World} (S : World → Prop) (T : Nat → Bool) (hm : P.follows .mixedOrders = true) (hS : S w.drew)
    (h : S w.drew → wpAnyT P .any ops Q S T ops.size (Array.replicate ops.size false) a w.drew) : (Code.region id ops true).wp P Q a w :=
  wp_region_any hm (wpAnyT_any _ _ _ _ (h hS))
end
end Go.Proofs.Ytchkcleenmoajaa
