/-
  Texts joined by program: Regions whose order is drawn: one live operation, by kind (reading). Regions whose order is drawn: one live operation that reads. Regions whose order is drawn: one live operation that reads. Regions whose order is drawn: one live operation that writes to an object of the region. Regions whose order is drawn: the whole region. Regions whose order is drawn: whole regions. Code of the abstract machine and the model's code. Code of the abstract machine and the model's code: all code. Runs of the abstract machine without fuel. Answers kept by: a table with some functions' answers at given arguments. From a run of the abstract machine to what a row asks of a law.
-/
import Derived.Test.YtilbbbjfdcnciaaGreatJMf
import Derived.LoopN
import Derived.Scope
import Derived.Test.YtilbbbjfdcnciaaGreatJMa
import Derived.RowKit3
/-! Regions whose order is drawn: one live operation, by kind (reading). -/
namespace Go.Va

variable {P : Program} {g g' : G}

section
variable {call : CallF} {N base : Nat} {ops : Array Oper} {ex : List (Nat × Nat)} {l : List AOpr} {tt : Nat → T} {hh : Nat → H} {val : Nat → AV}

theorem exOk_spec {t : T} : ∀ {ex : List (Nat × Nat)}, exOk t ex = true → ∀ p q, (p, q) ∈ ex → ∃ k v f k' v' f', t.get p = .ptr k v f ∧ t.get q = .ptr k' v' f' ∧ k ≠ k'
  | [], _, _, _, h => by cases h
  | (p0, q0) :: r, h, p, q, hm => by
    simp only [exOk, Bool.and_eq_true] at h
    rcases List.mem_cons.1 hm with he | he
    · simp only [Prod.mk.injEq] at he
      obtain ⟨rfl, rfl⟩ := he
      have h1 := h.1
      split at h1
      · rename_i k v f k' v' f' e1 e2
        refine ⟨k, v, f, k', v', f', e1, e2, ?_⟩
        rintro rfl
        simp at h1
      · cases h1
    · exact exOk_spec h.2 p q he

/-- the pointers of pairs that are apart are never written -/
theorem DCtx.stay (D : DCtx P call N base ops ex l tt hh val) {p q : Nat} (hm : (p, q) ∈ ex) {i : Nat} (hi : i ≤ l.length) : (tt i).get p = (tt 0).get p ∧ (tt i).get q = (tt 0).get q := by
  have h := D.stays
  unfold exStays at h
  simp only [List.all_eq_true] at h
  have h1 := h (p, q) hm
  have key : ∀ (j : Nat) (x : AOpr), l[j]? = some x → x.dst ≠ some p ∧ x.dst ≠ some q := by
    intro j x hx
    have := h1 x (List.mem_of_getElem? hx)
    simpa using this
  refine ⟨?_, ?_⟩
  · rcases D.tt_get p i hi with ⟨j, x, _, hx, hd, _⟩ | ⟨_, h2⟩
    · exact absurd hd (key j x hx).1
    · exact h2
  · rcases D.tt_get q i hi with ⟨j, x, _, hx, hd, _⟩ | ⟨_, h2⟩
    · exact absurd hd (key j x hx).2
    · exact h2

end

end Go.Va
/-! Regions whose order is drawn: one live operation that reads. -/
namespace Go.Va

variable {P : Program} {g g' : G}

section
variable {call : CallF} {N base : Nat} {ops : Array Oper} {ex : List (Nat × Nat)} {l : List AOpr} {tt : Nat → T} {hh : Nat → H} {val : Nat → AV}

/-- what a load sees -/
theorem DInv.load_key (D : DCtx P call N base ops ex l tt hh val) {g0 : G} {h0 : H} {w0 : World} {S : Nat → Prop} {m : Mem} {a : Act} {w : World} (I : DInv l tt hh val base N g0 h0 w0 S g m a w) {i : Nat} {o : Oper} {x : AOpr}
    (r : Ready ops S i o) (hx : l[i]? = some x) {sh : Sh} {p : Opd} (hop : x.op = .load sh p) {k ver off : Nat} (hp : p.ev (tt i) = .ptr k ver off) (hkb : k < base) : m k = (hh i).objs.get k := by
  have hlt := (List.getElem?_eq_some_iff.1 hx).1
  have hap : ∀ (j : Nat) (y : AOpr), l[j]? = some y → chg hh j k → ∀ sh' pp n q v, x.op = .load sh' (.t pp) → y.op = .store n (.t q) v → (pp, q) ∈ ex → False := by
    intro j y hy hc sh' pp n q v h1 h2 h3
    rw [hop] at h1
    simp only [AOp.load.injEq] at h1
    obtain ⟨_, rfl⟩ := h1
    obtain ⟨k1, v1, f1, k2, v2, f2, e1, e2, e3⟩ := exOk_spec D.exok pp q h3
    have hjl := (List.getElem?_eq_some_iff.1 hy).1
    have s1 := (D.stay h3 (Nat.le_of_lt hlt)).1
    have s2 := (D.stay h3 (Nat.le_of_lt hjl)).2
    simp only [Opd.ev] at hp
    rw [s1, e1] at hp
    simp only [AV.ptr.injEq] at hp
    obtain ⟨rfl, _⟩ := hp
    obtain ⟨_, ⟨_, hv⟩ | ⟨_, _, h⟩⟩ := D.tr j y hy
    · unfold stepV at hv
      rw [h2] at hv
      simp only [AOp.kd, effV] at hv
      split at hv
      · rename_i h1 hst
        simp only [Option.some.injEq, Prod.mk.injEq] at hv
        obtain ⟨_, rfl⟩ := hv
        obtain ⟨k3, ver3, off3, var, cs, q1, q2, q3, _, _, _, q4⟩ := storeV_spec hst
        simp only [Opd.ev] at q1
        rw [s2, e2] at q1
        simp only [AV.ptr.injEq] at q1
        obtain ⟨rfl, _⟩ := q1
        refine hc ?_
        rw [q4]
        show (Objs.set _ _ _).get k1 = _
        rw [Objs.get_set _ _ _ _ q3, upd_other _ _ e3]
      · cases hv
    · exact hc (by rw [h])
  refine I.mem_low D r hx (by rw [hop]; rfl) hkb fun j y hy hc => ⟨?_, ?_⟩
  · cases h : apartOps ex x.op y.op with
    | false => rfl
    | true =>
      rcases apart_kinds h with ⟨sh', pp, n, q, v, h1, h2, h3⟩ | ⟨sh', pp, n, q, v, h1, h2, h3⟩
      · exact (hap j y hy hc _ _ _ _ _ h1 h2 h3).elim
      · rw [hop] at h2; cases h2
  · cases h : apartOps ex y.op x.op with
    | false => rfl
    | true =>
      rcases apart_kinds h with ⟨sh', pp, n, q, v, h1, h2, h3⟩ | ⟨sh', pp, n, q, v, h1, h2, h3⟩
      · rw [hop] at h2; cases h2
      · exact (hap j y hy hc _ _ _ _ _ h1 h2 h3).elim

end

end Go.Va
/-! Regions whose order is drawn: one live operation that reads. -/
namespace Go.Va

variable {P : Program} {g g' : G}

section
variable {call : CallF} {N base : Nat} {ops : Array Oper} {ex : List (Nat × Nat)} {l : List AOpr} {tt : Nat → T} {hh : Nat → H} {val : Nat → AV}

theorem DInv.sees (D : DCtx P call N base ops ex l tt hh val) {g0 : G} {h0 : H} {w0 : World} {S : Nat → Prop} {m : Mem} {a : Act} {w : World} (I : DInv l tt hh val base N g0 h0 w0 S g m a w) {i : Nat} {o : Oper} {x : AOpr}
    (r : Ready ops S i o) (hx : l[i]? = some x) (hk : x.op.kd = .mem) {v : AV} (hv : memV (tt i) ((hh i).objs.view base) x.op = some v) : ∃ os, memV (tt i) os x.op = some v ∧ Sub (Objs.get os) m := by
  obtain ⟨n1, n2, n3, n4⟩ := I.ndro D r hx (by rw [hk]; rfl)
  by_cases hl : ∃ sh p, x.op = .load sh p
  · obtain ⟨sh, p, hop⟩ := hl
    rw [hop] at hv ⊢
    simp only [memV] at hv ⊢
    cases hp : p.ev (tt i)
    case ptr k ver off =>
      rw [hp] at hv
      simp only [loadV] at hv
      split at hv
      · rename_i ver' var cs hget
        have hget' := hget
        rw [n3.view] at hget'
        simp only [viewM] at hget'
        split at hget'
        · rename_i hkb
          have hm := I.load_key D r hx hop hp hkb
          refine ⟨[(k, .arr ver' var cs)], by simp [loadV, Objs.get]; simpa using hv, fun k' ob h => ?_⟩
          simp only [Objs.get] at h
          split at h
          · rename_i hb
            rw [Nat.beq_eq] at hb; subst hb
            rw [hm, hget']; exact h
          · cases h
        · cases hget'
      · cases hv
    case tptr y =>
      rw [hp] at hv
      exact ⟨[], hv, fun k' ob h => by simp [Objs.get] at h⟩
    all_goals
      rw [hp] at hv
      simp [loadV] at hv
  · have hlow := I.low_of D r hx (by rw [hk]; rfl) (by rw [hk]; rfl) (fun sh p h => hl ⟨sh, p, h⟩)
    exact ⟨_, hv, by rw [n3.view]; exact view_sub' hlow⟩

theorem DInv.exec_mem (D : DCtx P call N base ops ex l tt hh val) {g0 : G} {h0 : H} {w0 : World} {S : Nat → Prop} {m : Mem} {a : Act} {w : World} (I : DInv l tt hh val base N g0 h0 w0 S g m a w) {i : Nat} {o : Oper} {x : AOpr}
    (r : Ready ops S i o) (hx : l[i]? = some x) (hk : x.op.kd = .mem) (hag : agOp P o.op x.op = true) (ht : TOn g (tt i) a.tmps x.op.uses)
    (hst : stepV call true base i (tt i) (hh i) x.op = some (val i, hh (i + 1))) : StepTo P o a w (Done l tt hh val base N g0 h0 w0 S a o i) := by
  unfold stepV at hst
  rw [hk] at hst
  simp only [if_true] at hst
  split at hst
  · rename_i v hv
    simp only [Option.some.injEq, Prod.mk.injEq] at hst
    obtain ⟨rfl, h2⟩ := hst
    obtain ⟨os, h5, h6⟩ := I.sees D r hx hk hv
    obtain ⟨cv, h3, h4⟩ := mem_ok (P := P) hag ht (I.wok.sub h6) h5
    exact StepTo.value h3 (.inl rfl) ⟨g, m, I.next0 D r hx h4 I.wok I.fresh (Tr.refl _ _ _ _ _) h2.symm (not_storeN (by rw [hk]; simp))⟩
  · cases hst

end

end Go.Va
/-! Regions whose order is drawn: one live operation that writes to an object of the region. -/
namespace Go.Va

variable {P : Program} {g g' : G}

section
variable {call : CallF} {N base : Nat} {ops : Array Oper} {ex : List (Nat × Nat)} {l : List AOpr} {tt : Nat → T} {hh : Nat → H} {val : Nat → AV}

theorem DInv.exec_effN (D : DCtx P call N base ops ex l tt hh val) {g0 : G} {h0 : H} {w0 : World} {S : Nat → Prop} {m : Mem} {a : Act} {w : World} (I : DInv l tt hh val base N g0 h0 w0 S g m a w) {i : Nat} {o : Oper} {x : AOpr}
    (r : Ready ops S i o) (hx : l[i]? = some x) (hk : x.op.kd = .effN) (hag : agOp P o.op x.op = true) (ht : TOn g (tt i) a.tmps x.op.uses)
    (hst : stepV call true base i (tt i) (hh i) x.op = some (val i, hh (i + 1))) : StepTo P o a w (Done l tt hh val base N g0 h0 w0 S a o i) := by
  have hlt := (List.getElem?_eq_some_iff.1 hx).1
  have hnE := D.noE hx (by rw [hk]; rfl) (by rw [hk]; rfl)
  have hplain := D.plain hnE i (Nat.le_of_lt hlt)
  generalize hop : x.op = op at *
  cases op <;> simp only [AOp.kd, reduceCtorEq] at hk
  case call md e f as => cases e <;> simp at hk
  rename_i n p v
  simp only [stepV, AOp.kd] at hst
  split at hst
  · rename_i k ver off hp
    split at hst
    · rename_i hkb
      rw [Nat.ble_eq] at hkb
      split at hst
      · rename_i h1 hsv
        simp only [Option.some.injEq, Prod.mk.injEq] at hst
        obtain ⟨hval, h2⟩ := hst
        obtain ⟨k', ver', off', var, cs, e1, e2, e3, e4, e5, e6, e7⟩ := storeV_spec hsv
        simp only [AV.ptr.injEq] at e1
        obtain ⟨rfl, rfl, rfl⟩ := e1
        simp only [agOp] at hag
        split at hag
        · rename_i t0 p' v' hoop
          simp only [Bool.and_eq_true] at hag
          obtain ⟨⟨hz, hpa⟩, hva⟩ := hag
          have hpr := agOpd_R hpa (ht.sub (fun n hn => by simp only [AOp.uses, List.mem_append]; exact .inl hn))
          have hvr := agOpd_R hva (ht.sub (fun n hn => by simp only [AOp.uses, List.mem_append]; exact .inr hn))
          rw [hp] at hpr
          have hpr' := hpr
          simp only [R] at hpr'
          obtain ⟨b, s, hinj, _⟩ := hpr'
          have hkl : k < base + l.length := Decidable.byContradiction fun hn => by rw [I.fresh k ver hn] at hinj; cases hinj
          obtain ⟨q, rfl⟩ := Nat.exists_eq_add_of_le hkb
          have hq : q < l.length := by omega
          have hSq : S q := Classical.byContradiction fun hn => by rw [I.left q hq hn ver] at hinj; cases hinj
          have hxE : x.op.kd.isInert = false := by rw [hop]; rfl
          have hxN : x.op.kd.isEffN = true := by rw [hop]; rfl
          have ap1 : ∀ y : AOpr, apartOps ex y.op x.op = false := fun y => by
            cases h : apartOps ex y.op x.op with
            | false => rfl
            | true => rcases apart_load h with ⟨_, h1⟩ | ⟨_, h1⟩ <;> rw [hop] at h1 <;> simp [AOp.kd] at h1
          have ap2 : ∀ y : AOpr, apartOps ex x.op y.op = false := fun y => by
            cases h : apartOps ex x.op y.op with
            | false => rfl
            | true => rcases apart_load h with ⟨h1, _⟩ | ⟨h1, _⟩ <;> rw [hop] at h1 <;> simp [AOp.kd] at h1
          have aft : ∀ j, i < j → S j → ¬ chg hh j (base + q) := fun j hj hs hc => by
            have hy := at_lt (I.lt j hs)
            rcases D.chg_kind hy hc with h | ⟨_, h⟩ | ⟨n', p1, v1, ver1, off1, _, h, _⟩
            · exact D.after r hj hx hy (clash_eff' h hxE (ap2 _)) hs
            · have hqj : q = j := by omega
              have := hplain.2.2.2.1 q (by omega) hq
              rw [e3] at this; cases this
            · exact D.after r hj hx hy (clash_effN hxN (by rw [h]; rfl)) hs
          have hm : m (base + q) = some (.arr ver var cs) := by
            rw [I.mem_eq (k := base + q) r.no (fun j hj hc => ?_) aft]
            · exact e3
            · have hy := at_lt (l := l) (i := j) (by omega)
              rcases D.chg_kind hy hc with h | ⟨_, h⟩ | ⟨n', p1, v1, ver1, off1, _, h, _⟩
              · exact D.before r hj hy hx (clash_eff h hxE (ap1 _))
              · have hqj : q = j := by omega
                subst hqj; exact hSq
              · exact D.before r hj hy hx (clash_effN (by rw [h]; rfl) hxN)
          obtain ⟨w', q1, g', q2, q3, q4⟩ := store_ok (P := P) I.wok (nk := base + i) hm hpr hvr e4 e5 e6 hz
          have hget : (hh (i + 1)).objs.get = upd (hh i).objs.get (base + q) (.arr ver var (putAt cs off (v.ev (tt i)).cells)) := by
            rw [← h2, e7]; exact Objs.get_set _ _ _ _ e3
          have hrun : (execOp a.eval o).run P w = .ok .skip w' := by simp [execOp, hoop, q1]
          refine StepTo.value hrun (.inr ⟨rfl, rfl⟩) ⟨g', _, I.next D r hx (by rw [← hval]; trivial) q3 (fresh_tr I.wok I.fresh (by omega) q4) (q4 _) (fun k => ⟨fun hc => ?_, fun hc => ?_⟩) (fun n' p1 v1 ver1 off1 i' _ h3 h4 _ => ?_) (fun h => by rw [hop] at h; simp [AOp.kd, Kd.isCallE] at h)⟩
          · have hkk : k = base + q := by
              refine Decidable.byContradiction fun hn => hc ?_
              rw [hget, upd_other _ _ hn]
            subst hkk
            exact ⟨by rw [hget, upd_same, upd_same], fun j hj hcj => Nat.le_of_not_lt fun hgt => aft j hgt hj hcj⟩
          · by_cases hkk : k = base + q
            · subst hkk
              unfold chg at hc
              have := Classical.not_not.1 hc
              rw [hget, upd_same, e3] at this
              rw [upd_same, hm, this]
            · rw [upd_other _ _ hkk]
          · rw [hop] at h3
            simp only [AOp.storeN.injEq] at h3
            obtain ⟨_, rfl, _⟩ := h3
            rw [hp] at h4
            simp only [AV.ptr.injEq] at h4
            have : q = i' := by omega
            subst this; exact hSq
        · cases hag
      · cases hst
    · cases hst
  · cases hst

end

end Go.Va
/-! Regions whose order is drawn: the whole region. -/
namespace Go.Va

variable {P : Program} {g g' : G}

section
variable {call : CallF} {N base : Nat} {ops : Array Oper} {ex : List (Nat × Nat)} {l : List AOpr} {tt : Nat → T} {hh : Nat → H} {val : Nat → AV}

theorem DInv.exec (hc : CallOk P call) (D : DCtx P call N base ops ex l tt hh val) {g0 : G} {h0 : H} {w0 : World} {S : Nat → Prop} {m : Mem} {a : Act} {w : World} (I : DInv l tt hh val base N g0 h0 w0 S g m a w) {i : Nat} {o : Oper} {x : AOpr}
    (r : Ready ops S i o) (hx : l[i]? = some x) (hst : stepV call true base i (tt i) (hh i) x.op = some (val i, hh (i + 1))) : StepTo P o a w (Done l tt hh val base N g0 h0 w0 S a o i) := by
  obtain ⟨_, _, hag, _⟩ := agOper_spec (D.ag i x o hx r.at_)
  have ht : TOn g (tt i) a.tmps x.op.uses := fun n hn => I.looks D r hx (by simp only [AOpr.looks, List.mem_append]; exact .inr hn)
  cases hk : x.op.kd
  case inert => exact I.exec_inert D r hx hk hag ht hst
  case mem => exact I.exec_mem D r hx hk hag ht hst
  case alloc => exact I.exec_alloc D r hx hk hag ht hst
  case eff => exact I.exec_eff D r hx hk hag ht hst
  case effN => exact I.exec_effN D r hx hk hag ht hst
  case call => exact I.exec_call hc D r hx hk hag ht hst
  case callE => exact I.exec_callE hc D r hx hk hag ht hst
  case none =>
    unfold stepV at hst
    rw [hk] at hst
    cases hst

end

end Go.Va
/-! Regions whose order is drawn: whole regions. -/
namespace Go.Va

variable {P : Program} {g g' : G}

theorem SOf_set {listed : Array Bool} {i : Nat} (hi : i < listed.size) : SOf (listed.setIfInBounds i true) = fun j => SOf listed j ∨ j = i := by
  funext j
  unfold SOf
  simp only [Array.getD_eq_getD_getElem?, Array.getElem?_setIfInBounds]
  by_cases h : i = j
  · subst h; simp [hi]
  · simp [h, Ne.symm h]

theorem Closed.add {ops : Array Oper} {S : Nat → Prop} {i : Nat} {o : Oper} (r : Ready ops S i o) : Closed ops (fun j => S j ∨ j = i) := by
  intro j hj y hy e he hb
  rcases hj with hj | rfl
  · exact .inl (r.closed j hj y hy e he hb)
  · rw [r.at_] at hy
    simp only [Option.some.injEq] at hy
    subst hy
    exact .inl (r.edges e he hb)

section
variable {call : CallF} {N base : Nat} {ops : Array Oper} {ex : List (Nat × Nat)} {l : List AOpr} {tt : Nat → T} {hh : Nat → H} {val : Nat → AV}

/-- where nothing is ready, all is done -/
theorem DCtx.over (D : DCtx P call N base ops ex l tt hh val) {listed : Array Bool} (hs : listed.size = ops.size) (h : Region.ready .any ops listed = []) : ∀ i, i < ops.size → SOf listed i := by
  intro i
  induction i using Nat.strongRecOn with
  | _ i ih =>
    intro hi
    refine Classical.byContradiction fun hn => ?_
    have hr : i ∈ Region.ready .any ops listed := by
      refine mem_ready.2 ⟨hi, ?_, ops[i], by simp [hi], fun e he hb => ?_⟩
      · unfold SOf at hn
        simp only [Array.getD_eq_getD_getElem?, Array.getElem?_eq_getElem (show i < listed.size by omega), Option.getD_some] at hn ⊢
        simpa using hn
      · have := D.back i ops[i] (by simp [hi]) e he hb
        exact ih e.on this (by omega)
    rw [h] at hr
    cases hr

/-- AN OPERATION OF A DRAWN REGION -/
theorem DInv.op (hc : CallOk P call) (D : DCtx P call N base ops ex l tt hh val) {g0 : G} {h0 : H} {w0 : World} {S : Nat → Prop} {m : Mem} {a : Act} {w : World} (I : DInv l tt hh val base N g0 h0 w0 S g m a w) {i : Nat} {o : Oper} {x : AOpr}
    (r : Ready ops S i o) (hx : l[i]? = some x) {Q : Exit → Act → World → Prop} {K : Act → World → Prop} (hK : ∀ g' m' a' w', DInv l tt hh val base N g0 h0 w0 (fun j => S j ∨ j = i) g' m' a' w' → K a' w') : wpOp P ops Q i K a w := by
  unfold wpOp
  rw [r.at_]
  simp only
  obtain ⟨_, _, _, hgd⟩ := agOper_spec (D.ag i x o hx r.at_)
  have live : stepV call true base i (tt i) (hh i) x.op = some (val i, hh (i + 1)) → o.wp P a w K Q := fun hst =>
    I.exec hc D r hx hst K Q fun cv w' ⟨g', m', hd⟩ => hK g' m' _ w' hd
  obtain ⟨_, ⟨hl, hst⟩ | ⟨⟨gd, want, b, hg, hb, hbw⟩, hv, hh0⟩⟩ := D.tr i x hx
  · have hw : Region.wanted o (yielded ops a.tmps) = true := by
      rcases hgd with ⟨hg1, _⟩ | ⟨jj, gd, want, hg1, hg2, hg3⟩
      · exact wanted_none hg1
      · rcases hl with hl | ⟨gd', w', hl1, hl2⟩
        · rw [hg2] at hl; cases hl
        · rw [hg2] at hl1
          simp only [Option.some.injEq, Prod.mk.injEq] at hl1
          obtain ⟨rfl, rfl⟩ := hl1
          have hr := I.looks D r hx (d := gd) (by simp only [AOpr.looks, hg2, List.mem_append]; exact .inl (by simp))
          rw [hl2] at hr
          rw [wanted_bool hg1 hg3 hr]
          simp
    rw [if_pos hw]
    exact .inl (live hst)
  · have hw : Region.wanted o (yielded ops a.tmps) = false := by
      rcases hgd with ⟨_, hg2⟩ | ⟨jj, gd', want', hg1, hg2, hg3⟩
      · rw [hg2] at hg; cases hg
      · rw [hg2] at hg
        simp only [Option.some.injEq, Prod.mk.injEq] at hg
        obtain ⟨rfl, rfl⟩ := hg
        have hr := I.looks D r hx (d := gd') (by simp only [AOpr.looks, hg2, List.mem_append]; exact .inl (by simp))
        rw [hb] at hr
        rw [wanted_bool hg1 hg3 hr]
        simpa using hbw
    rw [hw, if_neg (by simp)]
    refine hK g m _ w (I.next0 D r hx (by rw [hv]; trivial) I.wok I.fresh (Tr.refl _ _ _ _ _) hh0 fun n p v ver off i' hlv => ?_)
    rcases hlv with h | ⟨gd', w', h1, h2⟩
    · rw [hg] at h; cases h
    · rw [hg] at h1
      simp only [Option.some.injEq, Prod.mk.injEq] at h1
      obtain ⟨rfl, rfl⟩ := h1
      rw [hb] at h2
      simp only [AV.bool.injEq] at h2
      exact absurd h2 hbw

theorem any_ok (hc : CallOk P call) (D : DCtx P call N base ops ex l tt hh val) {g0 : G} {h0 : H} {w0 : World} {Q : Exit → Act → World → Prop}
    (hQ : ∀ g m a w, DInv l tt hh val base N g0 h0 w0 (fun i => i < l.length) g m a w → Q .normal a w) :
    ∀ (fuel : Nat) (listed : Array Bool) (g : G) (m : Mem) (a : Act) (w : World), listed.size = ops.size → listed.toList.count false ≤ fuel → Closed ops (SOf listed) → DInv l tt hh val base N g0 h0 w0 (SOf listed) g m a w →
      wpAny P .any ops Q fuel listed a w := by
  intro fuel
  have fin : ∀ (listed : Array Bool) (g : G) (m : Mem) (a : Act) (w : World), listed.size = ops.size → DInv l tt hh val base N g0 h0 w0 (SOf listed) g m a w → Region.ready .any ops listed = [] → Q .normal a w := by
    intro listed g m a w hs I hr
    have e : SOf listed = fun i => i < l.length := by
      funext i
      exact propext ⟨I.lt i, fun hi => D.over hs hr i (by rw [← D.len]; exact hi)⟩
    rw [e] at I
    exact hQ g m a w I
  have inc : ∀ {listed : Array Bool} {i : Nat}, listed.size = ops.size → i ∈ Region.ready .any ops listed → listed.toList[i]? = some false := by
    intro listed i hs hi
    obtain ⟨h1, h2, _⟩ := mem_ready.1 hi
    have hlt : i < listed.size := by omega
    simp only [Array.getD_eq_getD_getElem?, Array.getElem?_eq_getElem hlt, Option.getD_some] at h2
    rw [Array.getElem?_toList, Array.getElem?_eq_getElem hlt, h2]
  induction fuel with
  | zero =>
    intro listed g m a w hs hcnt _ I
    have hr : Region.ready .any ops listed = [] := by
      refine List.eq_nil_iff_forall_not_mem.2 fun i hi => ?_
      have h1 := List.mem_of_getElem? (inc hs hi)
      have := List.count_pos_iff.2 h1
      omega
    exact ⟨hr, fin listed g m a w hs I hr⟩
  | succ fuel ih =>
    intro listed g m a w hs hcnt hcl I
    refine ⟨fin listed g m a w hs I, fun i hi => ?_⟩
    have hf := inc hs hi
    obtain ⟨h1, h2, o, h3, h4⟩ := mem_ready.1 hi
    have hlt : i < listed.size := by omega
    have hno : ¬ SOf listed i := by
      unfold SOf
      simp only [Array.getD_eq_getD_getElem?, Array.getElem?_eq_getElem hlt, Option.getD_some] at h2 ⊢
      rw [h2]; simp
    have r : Ready ops (SOf listed) i o := ⟨h3, hno, hcl, h4⟩
    have hx := at_lt (l := l) (i := i) (by rw [D.len]; exact h1)
    refine I.op hc D r hx fun g' m' a' w' I' => ?_
    refine ih _ g' m' a' w' (by simpa using hs) ?_ (by rw [SOf_set hlt]; exact Closed.add r) (by rw [SOf_set hlt]; exact I')
    have hlt' : i < listed.toList.length := by simpa using hlt
    have hpos := List.count_pos_iff.2 (List.mem_of_getElem? hf)
    rw [Array.toList_setIfInBounds, List.count_set hlt']
    rw [List.getElem?_eq_getElem hlt'] at hf
    simp only [Option.some.injEq] at hf
    rw [hf]
    simp only [beq_self_eq_true, if_true, Bool.true_beq, Bool.false_eq_true, if_false, Nat.add_zero]
    omega

end

theorem agOpers_at {N : Nat} {ops : Array Oper} : ∀ {os : List Oper} {l : List AOpr}, agOpers P N ops os l = true → os.length = l.length ∧ ∀ (i : Nat) (o : Oper) (x : AOpr), os[i]? = some o → l[i]? = some x → agOper P N ops o x = true
  | [], [], _ => ⟨rfl, fun i o x h => by simp at h⟩
  | [], _ :: _, h => by simp [agOpers] at h
  | _ :: _, [], h => by simp [agOpers] at h
  | o :: os, x :: l, h => by
    simp only [agOpers, Bool.and_eq_true] at h
    obtain ⟨h1, h2⟩ := agOpers_at h.2
    refine ⟨by simp [h1], fun i o' x' ho hx => ?_⟩
    cases i with
    | zero =>
      simp only [List.getElem?_cons_zero, Option.some.injEq] at ho hx
      subst ho hx
      exact h.1
    | succ i => exact h2 i o' x' (by simpa using ho) (by simpa using hx)

/-- A DRAWN REGION -/
theorem draw_ok {call : CallF} (hc : CallOk P call) (hm : P.follows .mixedOrders = true) {id N : Nat} {ops : Array Oper} {l : List AOpr} {ex : List (Nat × Nat)} (hag : agOpers P N ops ops.toList l = true) (hd : drawOk ex ops.toList l = true)
    {t t' : T} {h h' : H} (hex : exOk t ex = true) (hrun : runOps call true h.cnt 0 l t { h with cnt := h.cnt + l.length } = some (t', h')) {a : Act} {w : World} (hi : Inv g t h a.tmps w) (hN : N ≤ a.tmps.size) (hdf : a.defers = []) :
    (Code.region id ops true).wp P (Post .norm g h w t' h' N) a w := by
  obtain ⟨tt, hh, val, q1, q2, q3, q4, q5⟩ := run_trace l 0 t _ hrun
  simp only [Nat.zero_add] at q3 q4 q5
  unfold drawOk at hd
  simp only [Bool.and_eq_true] at hd
  obtain ⟨⟨⟨d1, d2⟩, d3⟩, d4⟩ := hd
  obtain ⟨e1, e2⟩ := agOpers_at hag
  have hnew : ∀ i, h.objs.get (h.cnt + i) = none := fun i => objs_none hi.wok fun ver => hi.fresh _ ver (by omega)
  have D : DCtx P call N h.cnt ops ex l tt hh val := by
    refine ⟨by rw [← e1]; simp, fun i x o hx ho => e2 i o x (by simpa using ho) hx, q5, fun j o ho e he hb => ?_, fun i j x y hij hx hy hcl => ?_, by rw [q1]; exact hex, d2, d4, by rw [q2], by rw [q2]; exact hi.ro, fun i _ => by rw [q2]; exact hnew i, by rw [q2]; exact hi.nd⟩
    · have := edgesBack_spec _ 0 d1 j o (by simpa using ho) e he hb
      omega
    · have := clashes_spec _ 0 d3 j y hy i x (by omega) hx hcl
      simpa using this
  refine wp_region_any hm ?_
  have hSn : SOf (Array.replicate ops.size false) = fun _ => False := by
    funext i
    unfold SOf
    simp only [Array.getD_eq_getD_getElem?, Array.getElem?_replicate]
    split <;> simp
  have hw1 : WOk g h.objs.get { w with drawn := w.drawn + 1 } := hi.wok.sameHeap rfl
  have I0 : DInv l tt hh val h.cnt N g h w (SOf (Array.replicate ops.size false)) g h.objs.get a { w with drawn := w.drawn + 1 } := by
    rw [hSn]
    refine ⟨fun d => .inr ⟨fun _ _ hf => hf.elim, by rw [q1]; exact hi.tok d⟩, fun k => .inr ⟨fun _ hf => hf.elim, by rw [q2]⟩, hw1, fun k ver hk => hi.fresh k ver (by omega), fun i _ _ ver => hi.fresh _ ver (by omega), fun _ hf => hf.elim, hN, hdf, Tr.sameHeap rfl ⟨rfl, rfl, rfl, fun _ => rfl⟩, fun _ _ _ _ _ _ _ _ hf => hf.elim, fun _ _ hf => hf.elim⟩
  refine any_ok hc D (fun g2 m2 a2 w2 I => ?_) ops.size _ g h.objs.get a _ (by simp) (by simp) (by rw [hSn]; exact fun _ hf => hf.elim) I0
  have hns : ¬ l.length < l.length := Nat.lt_irrefl _
  have htok : TOk g2 t'.get a2.tmps := fun d => by
    rw [← q3]
    exact I.tmp_eq D (Nat.le_refl _) hns (fun j x hj _ _ => hj) fun j x hj hs => absurd hs (by omega)
  have hmem : m2 = h'.objs.get := by
    funext k
    rw [← q4]
    exact I.mem_eq hns (fun j hj _ => hj) fun j hj hs => absurd hs (by omega)
  obtain ⟨a1, a2', a3, a4⟩ := I.all D (Nat.le_refl _) fun j y hj _ _ => hj
  rw [q4] at a1 a2' a3 a4
  rw [q2] at a2' a4
  have hro := hi.ro
  refine ⟨trivial, I.defers, I.size, g2, ⟨htok, by rw [← hmem]; exact I.wok, a3, by rw [a1]; exact I.fresh, by rw [a1, a2']; show h.ro ≤ _; omega⟩, by rw [← hmem]; exact I.tr, by rw [a1]; omega, a2', a4⟩

end Go.Va
/-! Code of the abstract machine and the model's code. -/
namespace Go.Va

variable {P : Program} {g g' : G}

theorem fzMany_sl {f : Objs → AV → Option (AV × Objs)} (hf : ∀ os v d os', f os v = some (d, os') → List.Sublist os' os) : ∀ {l ds : List AV} {os os' : Objs}, fzMany f os l = some (ds, os') → List.Sublist os' os
  | [], ds, os, os', h => by
    simp only [fzMany, Option.some.injEq, Prod.mk.injEq] at h
    obtain ⟨_, rfl⟩ := h
    exact List.Sublist.refl _
  | v :: l, ds, os, os', h => by
    simp only [fzMany] at h
    split at h
    · rename_i d os1 h1
      split at h
      · rename_i ds' os2 h2
        simp only [Option.some.injEq, Prod.mk.injEq] at h
        obtain ⟨_, rfl⟩ := h
        exact (fzMany_sl hf h2).trans (hf _ _ _ _ h1)
      · cases h
    · cases h

theorem freezeV_sl {ro : Nat} : ∀ (n : Nat) (os : Objs) (v d : AV) (os' : Objs), freezeV ro n os v = some (d, os') → List.Sublist os' os
  | 0, os, v, d, os', h => by simp [freezeV] at h
  | n + 1, os, v, d, os', h => by
    have ih := freezeV_sl (ro := ro) n
    cases v
    case slR k ver off len w ag =>
      simp only [freezeV] at h
      split at h
      · cases h
      · split at h
        · split at h
          · split at h
            · rename_i ds os1 h1
              split at h
              · simp only [Option.some.injEq, Prod.mk.injEq] at h
                obtain ⟨_, rfl⟩ := h
                exact (fzMany_sl ih h1).trans (Objs.del_sub _ _)
              · cases h
            · cases h
          · cases h
        · cases h
    case mapR r =>
      simp only [freezeV] at h
      split at h
      · cases h
      · split at h
        · split at h
          · rename_i ds os1 h1
            simp only [Option.some.injEq, Prod.mk.injEq] at h
            obtain ⟨_, rfl⟩ := h
            exact (fzMany_sl ih h1).trans (Objs.del_sub _ _)
          · cases h
        · cases h
    case agg cs =>
      simp only [freezeV] at h
      split at h
      · rename_i ds os1 h1
        simp only [Option.some.injEq, Prod.mk.injEq] at h
        obtain ⟨_, rfl⟩ := h
        exact fzMany_sl ih h1
      · cases h
    case tup cs =>
      simp only [freezeV] at h
      split at h
      · rename_i ds os1 h1
        simp only [Option.some.injEq, Prod.mk.injEq] at h
        obtain ⟨_, rfl⟩ := h
        exact fzMany_sl ih h1
      · cases h
    case func f a b =>
      simp only [freezeV] at h
      split at h
      · simp only [Option.some.injEq, Prod.mk.injEq] at h
        obtain ⟨_, rfl⟩ := h
        exact List.Sublist.refl _
      · cases h
    all_goals
      simp only [freezeV, AV.data] at h
      first
        | cases h; done
        | simp only [Option.some.injEq, Prod.mk.injEq] at h; obtain ⟨_, rfl⟩ := h; exact List.Sublist.refl _

theorem freezeP_sl {ro : Nat} {os os' : Objs} {v d : AV} (h : freezeP ro os v = some (d, os')) : List.Sublist os' os := by
  unfold freezeP at h
  split at h
  · split at h
    · split at h
      · split at h
        · split at h
          · rename_i h1
            simp only [Option.some.injEq, Prod.mk.injEq] at h
            obtain ⟨_, rfl⟩ := h
            exact (freezeV_sl _ _ _ _ _ h1).trans (Objs.del_sub _ _)
          · cases h
        · cases h
      · cases h
    · cases h
  · exact freezeV_sl _ _ _ _ _ h

theorem freezeT_sl : ∀ {ns : List Nat} {t t' : T} {h h' : H}, freezeT ns t h = some (t', h') → List.Sublist h'.objs h.objs
  | [], t, t', h, h', hf => by
    simp only [freezeT, Option.some.injEq, Prod.mk.injEq] at hf
    obtain ⟨_, rfl⟩ := hf
    exact List.Sublist.refl _
  | n :: ns, t, t', h, h', hf => by
    simp only [freezeT] at hf
    split at hf
    · rename_i d os hfz
      exact (freezeT_sl hf).trans (freezeP_sl hfz)
    · cases hf

/-- a frame ready to run -/
structure St (g : G) (t : T) (h : H) (N : Nat) (a : Act) (w : World) : Prop where
  inv : Inv g t h a.tmps w
  size : N ≤ a.tmps.size
  defers : a.defers = []

theorem Post.from {out : Out} {g0 : G} {h0 h : H} {w0 w w' : World} {t' : T} {h' : H} {N : Nat} {e : Exit} {a' : Act} (hl : Left g0 h0 w0 g h w) (hp : Post out g h w t' h' N e a' w') : Post out g0 h0 w0 t' h' N e a' w' := by
  obtain ⟨h1, h2, h3, g', h4, h5⟩ := hp
  exact ⟨h1, h2, h3, g', h4, hl.trans h5⟩

/-- what is left of a block's variables is dropped -/
theorem Post.trim {out : Out} {g0 : G} {h0 : H} {w0 w' : World} {t' : T} {h' : H} {N : Nat} {e : Exit} {a' : Act} (hro : h0.ro ≤ h0.cnt) (live : List Nat) (hp : Post out g0 h0 w0 t' h' N e a' w') (e' : Exit) (out' : Out) (ho : OutOk out' e') :
    Post out' g0 h0 w0 (t'.scrub live) (trim h0.cnt (t'.scrub live) h') N e' a' w' := by
  obtain ⟨_, h2, h3, g', h4, h5⟩ := hp
  obtain ⟨g2, q1, q2⟩ := trim_ok (h4.scrub live) h5 hro
  exact ⟨ho, h2, h3, g2, q1, q2⟩

theorem exec_region {F : Tab} {n : Nat} {fz : List Nat} {ex : List (Nat × Nat)} {l : List AOpr} {draw : Bool} {live : List Nat} {t : T} {h : H} {out : Out} {t' : T} {h' : H} (hx : exec F (n + 1) (.region fz ex l draw live) t h = some (out, t', h')) :
    ∃ t1 h1 t2, freezeT fz t h = some (t1, h1) ∧ exOk t1 ex = true ∧ runOps (callBody (exec F n) F) draw h1.cnt 0 l t1 { h1 with cnt := h1.cnt + l.length } = some (t2, h') ∧ out = .norm ∧ t' = t2.scrub live := by
  simp only [exec] at hx
  split at hx
  · rename_i t1 h1 hf
    split at hx
    · rename_i hex
      split at hx
      · rename_i t2 h2 hr
        simp only [Option.some.injEq, Prod.mk.injEq] at hx
        obtain ⟨rfl, rfl, rfl⟩ := hx
        exact ⟨t1, h1, t2, hf, hex, hr, rfl, rfl⟩
      · cases hx
    · cases hx
  · cases hx

theorem region_ok {call : CallF} (hc : CallOk P call) (hm : P.follows .mixedOrders = true) {id N : Nat} {ops : Array Oper} {draw : Bool} {l : List AOpr} {ex : List (Nat × Nat)} (hag : agOpers P N ops ops.toList l = true) (hd : draw = true → drawOk ex ops.toList l = true)
    {t t' : T} {h h' : H} (hex : exOk t ex = true) (hrun : runOps call draw h.cnt 0 l t { h with cnt := h.cnt + l.length } = some (t', h')) {a : Act} {w : World} (st : St g t h N a w) :
    (Code.region id ops draw).wp P (Post .norm g h w t' h' N) a w := by
  cases draw with
  | true => exact draw_ok hc hm hag (hd rfl) hex hrun st.inv st.size st.defers
  | false =>
    refine wp_region ?_
    have hlen := (agOpers_at hag).1
    have hi := st.inv
    have hro := hi.ro
    have I0 : SInv g h w h.cnt l.length N 0 g t { h with cnt := h.cnt + l.length } a w :=
      ⟨hi.tok, hi.wok, hi.nd, fun k ver hk => hi.fresh k ver (by simp only at hk; omega), Nat.le_refl _, rfl, fun i _ _ ver => hi.fresh _ ver (by omega), st.size, st.defers, Tr.refl _ _ _ _ _, fun _ _ => rfl⟩
    have key := seq_ok hc (ops := ops) (N := N) (base := h.cnt) (n := l.length) (g0 := g) (h0 := h) (w0 := w) hro (Q := Post .norm g h w t' h' N) (t' := t') (h' := h')
      (fun g' a' w' I => ⟨trivial, I.defers, I.size, g', ⟨I.tok, I.wok, I.nd, I.fresh, by have := I.ro; have := I.cnt; omega⟩, I.tr, by have := I.cnt; omega, I.ro, I.low⟩)
      l ops.toList 0 t _ g a w hag (fun i => by simp) (by omega) hrun I0
    rw [List.range_eq_range']
    rw [show ops.size = l.length by rw [← hlen]; simp]
    exact key

end Go.Va
/-! Code of the abstract machine and the model's code: all code. -/
namespace Go.Va

variable {P : Program} {g g' : G}

def LoopOk (P : Program) (F : Tab) (n : Nat) : Prop := ∀ (ac : AC) (live : List Nat) (t : T) (h : H) (out : Out) (t' : T) (h' : H), exec F n (.loop ac live) t h = some (out, t', h') →
  ∀ (N : Nat) (code : Code), agCode P N code ac = true → ∀ (g : G) (a : Act) (w : World), St g t h N a w → ∀ Q : Exit → Act → World → Prop, (∀ e a' w', Post out g h w t' h' N e a' w' → Q e a' w') → Code.rounds P code Q n a w

theorem out_then {out : Out} {e : Exit} {a : Act} {w : World} {K : Act → World → Prop} {Q : Exit → Act → World → Prop} (ho : OutOk out e) (hn : out ≠ .norm) (h : Q e a w) : Exit.then K Q e a w := by
  cases out with
  | norm => exact absurd rfl hn
  | exit i => cases e <;> first | exact ho.elim | exact h
  | ret => cases e <;> first | exact ho.elim | exact h

theorem norm_then {e : Exit} {a : Act} {w : World} {K : Act → World → Prop} {Q : Exit → Act → World → Prop} (ho : OutOk .norm e) (h : K a w) : Exit.then K Q e a w := by
  cases e <;> first | exact ho.elim | exact h

theorem loop_ok {F : Tab} (n : Nat) (ih : ExecOk P (exec F n)) (il : LoopOk P F n) : LoopOk P F (n + 1) := by
  intro ac live t h out t' h' hx N code hag g a w st Q hQ
  rw [rounds_succ]
  simp only [exec] at hx
  have st1 : Inv g (t.scrub live) h a.tmps w := st.inv.scrub live
  split at hx
  · rename_i t1 h1 hb
    refine wp_mono (ih _ _ _ _ _ _ hb N code hag g a w st1 st.size st.defers) fun e a1 w1 hp => ?_
    refine norm_then hp.1 ?_
    obtain ⟨_, p2, p3, g1, p4, p5⟩ := hp.trim st.inv.ro live .normal .norm trivial
    exact il ac live _ _ out t' h' hx N code hag g1 a1 w1 ⟨p4, p3, p2⟩ Q fun e' a' w' hp' => hQ _ _ _ (hp'.from p5)
  · rename_i hne
    refine wp_mono (ih _ _ _ _ _ _ hx N code hag g a w st1 st.size st.defers) fun e a1 w1 hp => ?_
    exact out_then hp.1 (fun ho => hne t' h' (by rw [hx, ho])) (hQ _ _ _ hp)

theorem code_ok {F : Tab} (hF : TabOk P F) (hm : P.follows .mixedOrders = true) (n : Nat) (ih : ExecOk P (exec F n)) (il : LoopOk P F (n + 1)) :
    ∀ (code : Code) (ac : AC) (t : T) (h : H) (out : Out) (t' : T) (h' : H), exec F (n + 1) ac t h = some (out, t', h') → ∀ (N : Nat), agCode P N code ac = true → ∀ (g : G) (a : Act) (w : World), St g t h N a w →
      code.wp P (Post out g h w t' h' N) a w
  | .scope body, ac, t, h, out, t', h', hx, N, hag, g, a, w, st => by
    have hag' : agCode P N body ac = true := by cases ac <;> simpa [agCode] using hag
    refine wp_scope_straight (wp_mono (code_ok hF hm n ih il body ac t h out t' h' hx N hag' g a w st) fun e a' w' hp => ?_)
    cases e <;> first | exact hp | exact (by cases out <;> exact hp.1.elim)
  | .skip, ac, t, h, out, t', h', hx, N, hag, g, a, w, st => by
    cases ac <;> simp only [agCode, Bool.false_eq_true] at hag
    simp only [exec, Option.some.injEq, Prod.mk.injEq] at hx
    obtain ⟨rfl, rfl, rfl⟩ := hx
    exact wp_skip ⟨trivial, st.defers, st.size, g, st.inv, Left.refl _ _ _⟩
  | .label l, ac, t, h, out, t', h', hx, N, hag, g, a, w, st => by
    cases ac <;> simp only [agCode, Bool.false_eq_true] at hag
    simp only [exec, Option.some.injEq, Prod.mk.injEq] at hx
    obtain ⟨rfl, rfl, rfl⟩ := hx
    exact wp_label ⟨trivial, st.defers, st.size, g, st.inv, Left.refl _ _ _⟩
  | .exit i, ac, t, h, out, t', h', hx, N, hag, g, a, w, st => by
    cases ac <;> simp only [agCode, Bool.false_eq_true] at hag
    rename_i i'
    rw [Nat.beq_eq] at hag
    subst hag
    simp only [exec, Option.some.injEq, Prod.mk.injEq] at hx
    obtain ⟨rfl, rfl, rfl⟩ := hx
    exact wp_exit ⟨rfl, st.defers, st.size, g, st.inv, Left.refl _ _ _⟩
  | .ret, ac, t, h, out, t', h', hx, N, hag, g, a, w, st => by
    cases ac <;> simp only [agCode, Bool.false_eq_true] at hag
    simp only [exec, Option.some.injEq, Prod.mk.injEq] at hx
    obtain ⟨rfl, rfl, rfl⟩ := hx
    exact wp_ret ⟨trivial, st.defers, st.size, g, st.inv, Left.refl _ _ _⟩
  | .region id ops draw, ac, t, h, out, t', h', hx, N, hag, g, a, w, st => by
    cases ac <;> simp only [agCode, Bool.false_eq_true] at hag
    rename_i fz ex l draw' live
    simp only [Bool.and_eq_true, beq_iff_eq, Bool.or_eq_true, Bool.not_eq_true'] at hag
    obtain ⟨⟨rfl, hag⟩, hd⟩ := hag
    obtain ⟨t1, h1, t2, q1, q2, q3, rfl, rfl⟩ := exec_region hx
    obtain ⟨g1, z1, z2, z3, z4⟩ := freezeT_ok q1 st.inv.wok st.inv.tok
    have hro := st.inv.ro
    have i1 : Inv g1 t1 h1 a.tmps w := ⟨z2, z1.wok, st.inv.nd.sublist (freezeT_sl q1), by rw [z3]; exact z1.fresh st.inv.fresh, by rw [z3, z4]; exact hro⟩
    have l1 : Left g h w g1 h1 w := ⟨z1.tr _ _, by rw [z3]; exact Nat.le_refl _, z4, z1.low⟩
    refine wp_mono (region_ok (callBody_ok ih hF) hm (id := id) hag (fun hdr => ?_) q2 q3 ⟨i1, st.size, st.defers⟩) fun e a' w' hp => ?_
    · rcases hd with hd | hd
      · rw [hdr] at hd; cases hd
      · exact hd.1
    · obtain ⟨p1, p2, p3, g2, p4, p5⟩ := hp
      exact ⟨p1, p2, p3, g2, p4.scrub live, l1.trans p5⟩
  | .seq x y, ac, t, h, out, t', h', hx, N, hag, g, a, w, st => by
    cases ac <;> simp only [agCode, Bool.false_eq_true] at hag
    rename_i x' y'
    simp only [Bool.and_eq_true] at hag
    simp only [exec] at hx
    refine wp_seq ?_
    split at hx
    · rename_i t1 h1 hb
      refine wp_mono (ih _ _ _ _ _ _ hb N x hag.1 g a w st.inv st.size st.defers) fun e a1 w1 hp => norm_then hp.1 ?_
      obtain ⟨_, p2, p3, g1, p4, p5⟩ := hp
      exact wp_mono (ih _ _ _ _ _ _ hx N y hag.2 g1 a1 w1 p4 p3 p2) fun e' a' w' hp' => hp'.from p5
    · rename_i hne
      refine wp_mono (ih _ _ _ _ _ _ hx N x hag.1 g a w st.inv st.size st.defers) fun e a1 w1 hp => ?_
      exact out_then hp.1 (fun ho => hne t' h' (by rw [hx, ho])) hp
  | .cond c x y, ac, t, h, out, t', h', hx, N, hag, g, a, w, st => by
    cases ac <;> simp only [agCode, Bool.false_eq_true] at hag
    rename_i c' x' y' live
    simp only [Bool.and_eq_true] at hag
    simp only [exec] at hx
    split at hx
    · rename_i v hv
      have hcv := agOpd_R (a := a) (t := t) (g := g) hag.1.1 fun m _ => st.inv.tok m
      rw [hv] at hcv
      simp only [R] at hcv
      refine wp_cond hcv ?_
      have hagv : agCode P N (if v then x else y) (if v then x' else y') = true := by cases v <;> simp [hag.1.2, hag.2]
      split at hx
      · rename_i t1 h1 hb
        simp only [Option.some.injEq, Prod.mk.injEq] at hx
        obtain ⟨rfl, rfl, rfl⟩ := hx
        exact wp_mono (ih _ _ _ _ _ _ hb N _ hagv g a w st.inv st.size st.defers) fun e a1 w1 hp => hp.trim st.inv.ro live e .norm hp.1
      · exact ih _ _ _ _ _ _ hx N _ hagv g a w st.inv st.size st.defers
    · cases hx
  | .block i x, ac, t, h, out, t', h', hx, N, hag, g, a, w, st => by
    cases ac <;> simp only [agCode, Bool.false_eq_true] at hag
    rename_i i' x' live
    simp only [Bool.and_eq_true, Nat.beq_eq] at hag
    obtain ⟨rfl, hag⟩ := hag
    simp only [exec] at hx
    refine wp_block ?_
    split at hx
    · rename_i t1 h1 hb
      simp only [Option.some.injEq, Prod.mk.injEq] at hx
      obtain ⟨rfl, rfl, rfl⟩ := hx
      refine wp_mono (ih _ _ _ _ _ _ hb N _ hag g a w st.inv st.size st.defers) fun e a1 w1 hp => ?_
      have := hp.trim st.inv.ro live e .norm hp.1
      have ho := hp.1
      cases e <;> first | exact ho.elim | exact this
    · rename_i j t1 h1 hb
      have key := ih _ _ _ _ _ _ hb N _ hag g a w st.inv st.size st.defers
      split at hx
      · rename_i hij
        rw [Nat.beq_eq] at hij
        subst hij
        simp only [Option.some.injEq, Prod.mk.injEq] at hx
        obtain ⟨rfl, rfl, rfl⟩ := hx
        refine wp_mono key fun e a1 w1 hp => ?_
        have := hp.trim st.inv.ro live .normal .norm trivial
        have ho := hp.1
        cases e <;> first | exact ho.elim | skip
        simp only [OutOk] at ho
        subst ho
        simpa [Exit.inBlock] using this
      · rename_i hij
        rw [Nat.beq_eq] at hij
        simp only [Option.some.injEq, Prod.mk.injEq] at hx
        obtain ⟨rfl, rfl, rfl⟩ := hx
        refine wp_mono key fun e a1 w1 hp => ?_
        have ho := hp.1
        cases e <;> first | exact ho.elim | skip
        simp only [OutOk] at ho
        subst ho
        simpa [Exit.inBlock, hij] using hp
    · rename_i h1 h2
      refine wp_mono (ih _ _ _ _ _ _ hx N _ hag g a w st.inv st.size st.defers) fun e a1 w1 hp => ?_
      cases out with
      | norm => exact absurd hx (h1 _ _)
      | exit j => exact absurd hx (h2 _ _ _)
      | ret =>
        have ho := hp.1
        cases e <;> first | exact ho.elim | exact hp
  | .loop x, ac, t, h, out, t', h', hx, N, hag, g, a, w, st => by
    cases ac <;> simp only [agCode, Bool.false_eq_true] at hag
    exact wp_loop_rounds (n + 1) (il _ _ _ _ _ _ _ hx N x hag g a w st _ fun _ _ _ hp => hp)
  | .rangeFunc .., ac, t, h, out, t', h', hx, N, hag, g, a, w, st => by cases ac <;> simp [agCode] at hag
  | .goto _, ac, t, h, out, t', h', hx, N, hag, g, a, w, st => by cases ac <;> simp [agCode] at hag

theorem exec_all {F : Tab} (hF : TabOk P F) (hm : P.follows .mixedOrders = true) : ∀ n, ExecOk P (exec F n) ∧ LoopOk P F n
  | 0 => ⟨fun ac t h out t' h' hx => by simp [exec] at hx, fun ac live t h out t' h' hx => by simp [exec] at hx⟩
  | n + 1 => by
    obtain ⟨h1, h2⟩ := exec_all hF hm n
    have hl := loop_ok n h1 h2
    exact ⟨fun ac t h out t' h' hx N code hag g a w hi hN hd => code_ok hF hm n h1 hl code ac t h out t' h' hx N hag g a w ⟨hi, hN, hd⟩, hl⟩

/-- THE ABSTRACT MACHINE IS RIGHT -/
theorem call_ok {F : Tab} (hF : TabOk P F) (hm : P.follows .mixedOrders = true) (n : Nat) : CallOk P (call F n) := callBody_ok (exec_all hF hm n).1 hF

end Go.Va
/-! Runs of the abstract machine without fuel. -/
namespace Go.Va

def ExLe (ex ex' : ExecF) : Prop := ∀ ac t h r, ex ac t h = some r → ex' ac t h = some r

def ClLe (c c' : CallF) : Prop := ∀ md f args h r, c md f args h = some r → c' md f args h = some r

theorem callV_mono {c c' : CallF} (hle : ClLe c c') {t : T} {h : H} {ao : AOp} {r : AV × H} (hv : callV c t h ao = some r) : callV c' t h ao = some r := by
  cases ao <;> simp only [callV, reduceCtorEq] at hv ⊢
  split at hv
  · exact hle _ _ _ _ _ hv
  · cases hv

theorem stepV_mono {c c' : CallF} (hle : ClLe c c') {draw : Bool} {base j : Nat} {t : T} {h : H} {ao : AOp} {r : AV × H} (hv : stepV c draw base j t h ao = some r) : stepV c' draw base j t h ao = some r := by
  unfold stepV at hv ⊢
  cases hk : ao.kd <;> rw [hk] at hv <;> simp only at hv ⊢
  case call =>
    cases draw <;> simp only [Bool.false_eq_true, if_false, if_true] at hv ⊢
    · exact callV_mono hle hv
    · split at hv
      · rename_i v h' hc
        rw [callV_mono hle hc]
        exact hv
      · cases hv
  case callE =>
    cases draw <;> simp only [Bool.false_eq_true, if_false, if_true] at hv ⊢
    · exact callV_mono hle hv
    · split at hv
      · rename_i v h' hc
        rw [callV_mono hle hc]
        exact hv
      · cases hv
  all_goals exact hv

theorem runOps_mono {c c' : CallF} (hle : ClLe c c') {draw : Bool} {base : Nat} {r : T × H} : ∀ (ops : List AOpr) (j : Nat) (t : T) (h : H), runOps c draw base j ops t h = some r → runOps c' draw base j ops t h = some r
  | [], _, _, _, hv => hv
  | o :: ops, j, t, h, hv => by
    have go : (match stepV c draw base j t h o.op with | some (v, h) => runOps c draw base (j + 1) ops (t.put o.dst v) h | none => none) = some r → (match stepV c' draw base j t h o.op with | some (v, h) => runOps c' draw base (j + 1) ops (t.put o.dst v) h | none => none) = some r := by
      intro hq
      split at hq
      · rename_i v h1 hs
        rw [stepV_mono hle hs]
        exact runOps_mono hle ops _ _ _ hq
      · cases hq
    simp only [runOps] at hv ⊢
    split
    · rename_i hg
      rw [hg] at hv
      exact go hv
    · rename_i g want hg
      rw [hg] at hv
      simp only at hv
      split
      · rename_i b hb
        rw [hb] at hv
        simp only at hv
        split
        · rename_i hbw
          rw [if_pos hbw] at hv
          exact go hv
        · rename_i hbw
          rw [if_neg hbw] at hv
          exact runOps_mono hle ops _ _ _ hv
      · rename_i hne
        split at hv
        · rename_i b hb
          exact absurd hb (hne b)
        · cases hv

section
variable {ex ex' : ExecF}

theorem callInl_mono (fn : AFunc) {args : List AV} {h : H} {r : AV × H} (hs : ∀ o, ex fn.body (T.ofArgs 0 args) h = some o → ex' fn.body (T.ofArgs 0 args) h = some o) (hv : callInl ex fn args h = some r) : callInl ex' fn args h = some r := by
  unfold callInl at hv ⊢
  cases hb : ex fn.body (T.ofArgs 0 args) h with
  | none => rw [hb] at hv; cases hv
  | some o => rw [hb] at hv; rw [hs o hb]; exact hv

theorem callPure_mono (fn : AFunc) {args : List AV} {r : AV} (hs : ∀ o, ex fn.body (T.ofArgs 0 args) { objs := [], cnt := 0, ro := 0 } = some o → ex' fn.body (T.ofArgs 0 args) { objs := [], cnt := 0, ro := 0 } = some o) (hv : callPure ex fn args = some r) : callPure ex' fn args = some r := by
  unfold callPure at hv ⊢
  cases hb : ex fn.body (T.ofArgs 0 args) { objs := [], cnt := 0, ro := 0 } with
  | none => rw [hb] at hv; cases hv
  | some o => rw [hb] at hv; rw [hs o hb]; exact hv

theorem callBor_mono (fn : AFunc) {args : List AV} {r : AV} (hs : ∀ o, ex fn.body (T.ofArgs 0 args) { objs := [], cnt := 0, ro := 0 } = some o → ex' fn.body (T.ofArgs 0 args) { objs := [], cnt := 0, ro := 0 } = some o) (hv : callBor ex fn args = some r) : callBor ex' fn args = some r := by
  unfold callBor at hv ⊢
  cases hb : ex fn.body (T.ofArgs 0 args) { objs := [], cnt := 0, ro := 0 } with
  | none => rw [hb] at hv; cases hv
  | some o => rw [hb] at hv; rw [hs o hb]; exact hv
end

theorem callBody_mono {ex ex' : ExecF} {F : Tab} (hle : ExLe ex ex') : ClLe (callBody ex F) (callBody ex' F) := by
  intro md f args h r hv
  unfold callBody at hv ⊢
  split
  · rename_i hf; rw [hf] at hv; cases hv
  · rename_i p hf; rw [hf] at hv; exact hv
  · rename_i fn hf
    rw [hf] at hv
    have hin : callInl ex fn args h = some r → callInl ex' fn args h = some r := callInl_mono fn (fun o ho => hle _ _ _ _ ho)
    have hpu : ∀ {ds v}, callPure ex fn ds = some v → callPure ex' fn ds = some v := fun hq => callPure_mono fn (fun o ho => hle _ _ _ _ ho) hq
    have hbo : ∀ {ds v}, callBor ex fn ds = some v → callBor ex' fn ds = some v := fun hq => callBor_mono fn (fun o ho => hle _ _ _ _ ho) hq
    cases md <;> simp only at hv ⊢
    · cases hd : AV.datas args with
      | none => rw [hd] at hv; cases hv
      | some ds =>
        rw [hd] at hv
        simp only at hv ⊢
        cases hq : callPure ex fn ds with
        | none => rw [hq] at hv; cases hv
        | some v => rw [hq] at hv; rw [hpu hq]; exact hv
    · exact hin hv
    · cases hd : borrows h.objs args with
      | none => rw [hd] at hv; cases hv
      | some ds =>
        rw [hd] at hv
        simp only at hv ⊢
        cases hq : callBor ex fn ds with
        | none => rw [hq] at hv; cases hv
        | some v => rw [hq] at hv; rw [hbo hq]; exact hv
    · cases hd : AV.datas args with
      | none => rw [hd] at hv; exact hin hv
      | some ds =>
        rw [hd] at hv
        simp only at hv ⊢
        cases hq : callPure ex fn ds with
        | none => rw [hq] at hv; cases hv
        | some v => rw [hq] at hv; rw [hpu hq]; exact hv

/-- one layer of exec -/
def stepX (F : Tab) (ex : ExecF) : ExecF
  | .skip, t, h => some (.norm, t, h)
  | .region fz exx ops draw live, t, h => match freezeT fz t h with
    | some (t, h) => if exOk t exx then (match runOps (callBody ex F) draw h.cnt 0 ops t { h with cnt := h.cnt + ops.length } with
      | some (t', h') => some (.norm, t'.scrub live, h')
      | none => none) else none
    | none => none
  | .seq a b, t, h => match ex a t h with
    | some (.norm, t, h) => ex b t h
    | r => r
  | .cond c a b live, t, h => match c.ev t with
    | .bool v => (match ex (if v then a else b) t h with
      | some (.norm, t', h') => some (.norm, t'.scrub live, trim h.cnt (t'.scrub live) h')
      | r => r)
    | _ => none
  | .block id a live, t, h => match ex a t h with
    | some (.norm, t', h') => some (.norm, t'.scrub live, trim h.cnt (t'.scrub live) h')
    | some (.exit i, t', h') => if Nat.beq i id then some (.norm, t'.scrub live, trim h.cnt (t'.scrub live) h') else some (.exit i, t', h')
    | r => r
  | .loop a live, t, h => match ex a (t.scrub live) h with
    | some (.norm, t', h') => ex (.loop a live) (t'.scrub live) (trim h.cnt (t'.scrub live) h')
    | r => r
  | .exit id, t, h => some (.exit id, t, h)
  | .ret, t, h => some (.ret, t, h)

theorem exec_succ (F : Tab) (n : Nat) (ac : AC) (t : T) (h : H) : exec F (n + 1) ac t h = stepX F (exec F n) ac t h := by
  cases ac <;> rfl

/-- where two runs agree wherever the first one answers; from the answers wanted -/
theorem stepX_of {F : Tab} {ex ex' : ExecF} {ac : AC} {t : T} {h : H} {r : Out × T × H} (hcl : ∀ fz exx ops draw live, ac = .region fz exx ops draw live → ∀ (t : T) (h : H) (r : T × H), runOps (callBody ex F) draw h.cnt 0 ops t { h with cnt := h.cnt + ops.length } = some r → runOps (callBody ex' F) draw h.cnt 0 ops t { h with cnt := h.cnt + ops.length } = some r)
    (hle : ExLe ex ex') (hx : stepX F ex ac t h = some r) : stepX F ex' ac t h = some r := by
  cases ac
  case region fz exx ops draw live =>
    simp only [stepX] at hx ⊢
    split at hx
    · rename_i t1 h1 hf
      split at hx
      · rename_i he
        rw [if_pos he]
        split at hx
        · rename_i t2 h2 hr
          rw [hcl _ _ _ _ _ rfl _ _ _ hr]
          exact hx
        · cases hx
      · cases hx
    · cases hx
  case seq a b =>
    simp only [stepX] at hx ⊢
    cases hb : ex a t h with
    | none => rw [hb] at hx; cases hx
    | some o =>
      obtain ⟨out, t1, h1⟩ := o
      rw [hb] at hx
      rw [hle _ _ _ _ hb]
      cases out with
      | norm => exact hle _ _ _ _ hx
      | exit i => exact hx
      | ret => exact hx
  case cond c a b live =>
    simp only [stepX] at hx ⊢
    split
    · rename_i v hv
      rw [hv] at hx
      simp only at hx
      cases hb : ex (if v then a else b) t h with
      | none => rw [hb] at hx; cases hx
      | some o => rw [hb] at hx; rw [hle _ _ _ _ hb]; exact hx
    · rename_i hne
      split at hx
      · rename_i v hv; exact absurd hv (hne v)
      · cases hx
  case block id a live =>
    simp only [stepX] at hx ⊢
    cases hb : ex a t h with
    | none => rw [hb] at hx; cases hx
    | some o => rw [hb] at hx; rw [hle _ _ _ _ hb]; exact hx
  case loop a live =>
    simp only [stepX] at hx ⊢
    cases hb : ex a (t.scrub live) h with
    | none => rw [hb] at hx; cases hx
    | some o =>
      obtain ⟨out, t1, h1⟩ := o
      rw [hb] at hx
      rw [hle _ _ _ _ hb]
      cases out with
      | norm => exact hle _ _ _ _ hx
      | exit i => exact hx
      | ret => exact hx
  all_goals exact hx

theorem stepX_mono {F : Tab} {ex ex' : ExecF} (hle : ExLe ex ex') : ExLe (stepX F ex) (stepX F ex') := fun _ _ _ _ hx =>
  stepX_of (fun _ _ _ _ _ _ _ _ _ hr => runOps_mono (callBody_mono hle) _ _ _ _ hr) hle hx

theorem exec_mono1 (F : Tab) : ∀ n, ExLe (exec F n) (exec F (n + 1))
  | 0 => fun ac t h r hx => by simp [exec] at hx
  | n + 1 => fun ac t h r hx => by
    rw [exec_succ] at hx ⊢
    exact stepX_mono (exec_mono1 F n) _ _ _ _ hx

theorem exec_mono (F : Tab) {n m : Nat} (hnm : n ≤ m) : ExLe (exec F n) (exec F m) := by
  induction hnm with
  | refl => exact fun _ _ _ _ h => h
  | step _ ih => exact fun ac t h r hx => exec_mono1 F _ _ _ _ _ (ih _ _ _ _ hx)

open Classical in
/-- the run with fuel enough -/
noncomputable def execW (F : Tab) : ExecF := fun ac t h => if hx : ∃ n o, exec F n ac t h = some o then exec F hx.choose ac t h else none

theorem execW_iff {F : Tab} {ac : AC} {t : T} {h : H} {o : Out × T × H} : execW F ac t h = some o ↔ ∃ n, exec F n ac t h = some o := by
  unfold execW
  constructor
  · intro hq
    split at hq
    · exact ⟨_, hq⟩
    · cases hq
  · rintro ⟨n, hn⟩
    have hx : ∃ n o, exec F n ac t h = some o := ⟨n, o, hn⟩
    rw [dif_pos hx]
    obtain ⟨o', ho'⟩ := hx.choose_spec
    have h1 := exec_mono F (Nat.le_max_left hx.choose n) _ _ _ _ ho'
    have h2 := exec_mono F (Nat.le_max_right hx.choose n) _ _ _ _ hn
    rw [h1] at h2
    rw [ho', h2]

theorem exec_leW (F : Tab) (n : Nat) : ExLe (exec F n) (execW F) := fun _ _ _ _ hx => execW_iff.2 ⟨n, hx⟩

/-- calls with fuel enough -/
noncomputable def callW (F : Tab) : CallF := callBody (execW F) F

theorem callW_of {F : Tab} {md : Md} {f : FuncId} {args : List AV} {h : H} {r : AV × H} (hv : callW F md f args h = some r) : ∃ n, call F n md f args h = some r := by
  unfold callW at hv
  have hv' := hv
  unfold callBody at hv
  split at hv
  · cases hv
  · rename_i p hf
    refine ⟨0, ?_⟩
    unfold call callBody
    rw [hf]
    exact hv
  · rename_i fn hf
    have one : ∀ t0 h0, (∀ ex : ExecF, (∀ o, execW F fn.body t0 h0 = some o → ex fn.body t0 h0 = some o) → callBody ex F md f args h = some r) → ∃ n, call F n md f args h = some r := by
      intro t0 h0 hk
      cases ho : execW F fn.body t0 h0 with
      | none =>
        exact ⟨0, hk _ fun o hq => by rw [ho] at hq; cases hq⟩
      | some o =>
        obtain ⟨n, hn⟩ := execW_iff.1 ho
        exact ⟨n, hk _ fun o' hq => by rw [ho] at hq; simp only [Option.some.injEq] at hq; subst hq; exact hn⟩
    have inl : callInl (execW F) fn args h = some r → (∀ ex, callInl ex fn args h = some r → callBody ex F md f args h = some r) → ∃ n, call F n md f args h = some r := fun hq hb =>
      one (T.ofArgs 0 args) h fun ex hs => hb ex (callInl_mono fn hs hq)
    have pur : ∀ {ds}, AV.datas args = some ds → (match callPure (execW F) fn ds with | some v => some (v, h) | none => none) = some r → (∀ ex, (match callPure ex fn ds with | some v => some (v, h) | none => none) = some r → callBody ex F md f args h = some r) → ∃ n, call F n md f args h = some r := by
      intro ds _ hq hb
      refine one (T.ofArgs 0 ds) { objs := [], cnt := 0, ro := 0 } fun ex hs => hb ex ?_
      cases hc : callPure (execW F) fn ds with
      | none => rw [hc] at hq; cases hq
      | some v => rw [callPure_mono fn hs hc]; rw [hc] at hq; exact hq
    cases md <;> simp only at hv
    · cases hd : AV.datas args with
      | none => rw [hd] at hv; cases hv
      | some ds =>
        rw [hd] at hv
        exact pur hd hv fun ex hq => by unfold callBody; rw [hf]; simp only [hd]; exact hq
    · exact inl hv fun ex hq => by unfold callBody; rw [hf]; exact hq
    · cases hd : borrows h.objs args with
      | none => rw [hd] at hv; cases hv
      | some ds =>
        rw [hd] at hv
        simp only at hv
        refine one (T.ofArgs 0 ds) { objs := [], cnt := 0, ro := 0 } fun ex hs => ?_
        unfold callBody
        rw [hf]
        simp only [hd]
        cases hc : callBor (execW F) fn ds with
        | none => rw [hc] at hv; cases hv
        | some v => rw [callBor_mono fn hs hc]; rw [hc] at hv; exact hv
    · cases hd : AV.datas args with
      | none =>
        rw [hd] at hv
        exact inl hv fun ex hq => by unfold callBody; rw [hf]; simp only [hd]; exact hq
      | some ds =>
        rw [hd] at hv
        exact pur hd hv fun ex hq => by unfold callBody; rw [hf]; simp only [hd]; exact hq

theorem stepV_of {F : Tab} {draw : Bool} {base j : Nat} {t : T} {h : H} {ao : AOp} {r : AV × H} (hv : stepV (callW F) draw base j t h ao = some r) : ∃ n, stepV (call F n) draw base j t h ao = some r := by
  have hc : ∀ {h0 : H} {r0 : AV × H}, callV (callW F) t h0 ao = some r0 → ∃ n, callV (call F n) t h0 ao = some r0 := by
    intro h0 r0 hq
    cases ao <;> simp only [callV, reduceCtorEq] at hq ⊢
    split at hq
    · obtain ⟨n, hn⟩ := callW_of hq
      exact ⟨n, hn⟩
    · cases hq
  unfold stepV at hv ⊢
  cases hk : ao.kd <;> rw [hk] at hv <;> simp only at hv ⊢
  case call =>
    cases draw <;> simp only [Bool.false_eq_true, if_false, if_true] at hv ⊢
    · exact hc hv
    · split at hv
      · rename_i v h' hq
        obtain ⟨n, hn⟩ := hc hq
        exact ⟨n, by rw [hn]; exact hv⟩
      · cases hv
  case callE =>
    cases draw <;> simp only [Bool.false_eq_true, if_false, if_true] at hv ⊢
    · exact hc hv
    · split at hv
      · rename_i v h' hq
        obtain ⟨n, hn⟩ := hc hq
        exact ⟨n, by rw [hn]; exact hv⟩
      · cases hv
  all_goals exact ⟨0, hv⟩

theorem call_mono (F : Tab) {n m : Nat} (h : n ≤ m) : ClLe (call F n) (call F m) := callBody_mono (exec_mono F h)

theorem runOps_of {F : Tab} {draw : Bool} {base : Nat} {r : T × H} : ∀ (ops : List AOpr) (j : Nat) (t : T) (h : H), runOps (callW F) draw base j ops t h = some r → ∃ n, runOps (call F n) draw base j ops t h = some r
  | [], _, _, _, hv => ⟨0, hv⟩
  | o :: ops, j, t, h, hv => by
    have go : (match stepV (callW F) draw base j t h o.op with | some (v, h) => runOps (callW F) draw base (j + 1) ops (t.put o.dst v) h | none => none) = some r → ∃ n, (match stepV (call F n) draw base j t h o.op with | some (v, h) => runOps (call F n) draw base (j + 1) ops (t.put o.dst v) h | none => none) = some r := by
      intro hq
      split at hq
      · rename_i v h1 hs
        obtain ⟨n1, e1⟩ := stepV_of hs
        obtain ⟨n2, e2⟩ := runOps_of ops _ _ _ hq
        refine ⟨max n1 n2, ?_⟩
        rw [stepV_mono (call_mono F (Nat.le_max_left n1 n2)) e1]
        exact runOps_mono (call_mono F (Nat.le_max_right n1 n2)) _ _ _ _ e2
      · cases hq
    simp only [runOps] at hv ⊢
    cases hg : o.guard with
    | none => rw [hg] at hv; exact go hv
    | some p =>
      obtain ⟨g, want⟩ := p
      rw [hg] at hv
      simp only at hv ⊢
      split at hv
      · rename_i b hb
        split at hv
        · rename_i hbw
          obtain ⟨n, hn⟩ := go hv
          exact ⟨n, by rw [if_pos hbw]; exact hn⟩
        · rename_i hbw
          obtain ⟨n, hn⟩ := runOps_of ops _ _ _ hv
          exact ⟨n, by rw [if_neg hbw]; exact hn⟩
      · cases hv

/-- THE EQUATION of the run with fuel enough -/
theorem execW_eq (F : Tab) (ac : AC) (t : T) (h : H) : execW F ac t h = stepX F (execW F) ac t h := by
  have up : ∀ o, execW F ac t h = some o → stepX F (execW F) ac t h = some o := by
    intro o ho
    obtain ⟨n, hn⟩ := execW_iff.1 ho
    cases n with
    | zero => simp [exec] at hn
    | succ n =>
      rw [exec_succ] at hn
      exact stepX_mono (exec_leW F n) _ _ _ _ hn
  have down : ∀ o, stepX F (execW F) ac t h = some o → ∃ n, stepX F (exec F n) ac t h = some o := by
    intro o ho
    cases ac
    case region fz exx ops draw live =>
      simp only [stepX] at ho ⊢
      split at ho
      · rename_i t1 h1 hf
        split at ho
        · rename_i he
          split at ho
          · rename_i t2 h2 hr
            obtain ⟨n, hn⟩ := runOps_of ops 0 t1 _ hr
            refine ⟨n, ?_⟩
            rw [if_pos he]
            unfold call at hn
            rw [hn]
            exact ho
          · cases ho
        · cases ho
      · cases ho
    case seq a b =>
      simp only [stepX] at ho ⊢
      cases hb : execW F a t h with
      | none => rw [hb] at ho; cases ho
      | some o1 =>
        obtain ⟨n1, e1⟩ := execW_iff.1 hb
        obtain ⟨out, t1, h1⟩ := o1
        rw [hb] at ho
        cases out with
        | norm =>
          obtain ⟨n2, e2⟩ := execW_iff.1 ho
          refine ⟨max n1 n2, ?_⟩
          rw [exec_mono F (Nat.le_max_left n1 n2) _ _ _ _ e1]
          exact exec_mono F (Nat.le_max_right n1 n2) _ _ _ _ e2
        | exit i => exact ⟨n1, by rw [e1]; exact ho⟩
        | ret => exact ⟨n1, by rw [e1]; exact ho⟩
    case cond c a b live =>
      simp only [stepX] at ho ⊢
      split at ho
      · rename_i v hv
        cases hb : execW F (if v then a else b) t h with
        | none => rw [hb] at ho; cases ho
        | some o1 =>
          obtain ⟨n1, e1⟩ := execW_iff.1 hb
          exact ⟨n1, by rw [e1]; rw [hb] at ho; exact ho⟩
      · cases ho
    case block id a live =>
      simp only [stepX] at ho ⊢
      cases hb : execW F a t h with
      | none => rw [hb] at ho; cases ho
      | some o1 =>
        obtain ⟨n1, e1⟩ := execW_iff.1 hb
        exact ⟨n1, by rw [e1]; rw [hb] at ho; exact ho⟩
    case loop a live =>
      simp only [stepX] at ho ⊢
      cases hb : execW F a (t.scrub live) h with
      | none => rw [hb] at ho; cases ho
      | some o1 =>
        obtain ⟨n1, e1⟩ := execW_iff.1 hb
        obtain ⟨out, t1, h1⟩ := o1
        rw [hb] at ho
        cases out with
        | norm =>
          obtain ⟨n2, e2⟩ := execW_iff.1 ho
          refine ⟨max n1 n2, ?_⟩
          rw [exec_mono F (Nat.le_max_left n1 n2) _ _ _ _ e1]
          exact exec_mono F (Nat.le_max_right n1 n2) _ _ _ _ e2
        | exit i => exact ⟨n1, by rw [e1]; exact ho⟩
        | ret => exact ⟨n1, by rw [e1]; exact ho⟩
    all_goals exact ⟨0, ho⟩
  cases hs : stepX F (execW F) ac t h with
  | some o =>
    obtain ⟨n, hn⟩ := down o hs
    exact execW_iff.2 ⟨n + 1, by rw [exec_succ]; exact hn⟩
  | none =>
    cases he : execW F ac t h with
    | none => rfl
    | some o => rw [up o he] at hs; cases hs

variable {P : Program}

/-- THE ABSTRACT MACHINE IS RIGHT, with fuel enough -/
theorem callW_ok {F : Tab} (hF : TabOk P F) (hm : P.follows .mixedOrders = true) : CallOk P (callW F) := by
  intro md f args h v h' hc
  obtain ⟨n, hn⟩ := callW_of hc
  exact call_ok hF hm n md f args h v h' hn

end Go.Va
/-! Answers kept by: a table with some functions' answers at given arguments. -/
namespace Go.Va

mutual
theorem eqb_eq : ∀ {a b : AV}, AV.eqb a b = true → a = b
  | .int k n, b, h => by
    cases b <;> simp only [AV.eqb, Bool.false_eq_true, Bool.and_eq_true, decide_eq_true_eq] at h
    rw [h.1, h.2]
  | .bool x, b, h => by
    cases b <;> simp only [AV.eqb, Bool.false_eq_true, beq_iff_eq] at h
    rw [h]
  | .agg x, b, h => by
    cases b <;> simp only [AV.eqb, Bool.false_eq_true] at h
    rw [eqbs_eq h]
  | .slT l x, b, h => by
    cases b <;> simp only [AV.eqb, Bool.false_eq_true, Bool.and_eq_true, beq_iff_eq] at h
    rw [h.1, eqbs_eq h.2]
  | .bot, _, h | .str _, _, h | .tup _, _, h | .func .., _, h | .nilF, _, h | .nilP, _, h | .nilM, _, h | .ptr .., _, h | .tptr _, _, h | .slR .., _, h | .mapR _, _, h | .mapT .., _, h => by simp [AV.eqb] at h
theorem eqbs_eq : ∀ {a b : List AV}, AV.eqbs a b = true → a = b
  | [], b, h => by cases b <;> simp only [AV.eqbs, Bool.false_eq_true] at h; rfl
  | x :: r, b, h => by
    cases b <;> simp only [AV.eqbs, Bool.false_eq_true, Bool.and_eq_true] at h
    rw [eqb_eq h.1, eqbs_eq h.2]
end

variable {P : Program}

theorem TabOk.over {F : Tab} (hF : TabOk P F) {n : Nat} {p : List AV → H → Option (AV × H)} (hp : PrimOk P n p) : TabOk P (F.over n p) := by
  intro f e h
  unfold Tab.over at h
  split at h
  · rename_i hb
    rw [Nat.beq_eq] at hb
    subst hb
    simp only [Option.some.injEq] at h
    subst h
    exact hp
  · exact hF f e h

/-- what a run of the abstract machine gave -/
theorem memo_ok {F : Tab} (hF : TabOk P F) (hm : P.follows .mixedOrders = true) {n : Nat} {f : FuncId} {af : AFunc} {args0 : List AV} {v : AV} (hf : F f = some (.code af)) (hd : AV.datas args0 = some args0) (hrun : callPure (exec F n) af args0 = some v) :
    PrimOk P f (memo args0 v) := by
  intro args h v' h' hp g w cargs hw hnd hfr hro hr
  unfold memo at hp
  split at hp
  · rename_i he
    have e := eqbs_eq he
    subst e
    simp only [Option.some.injEq, Prod.mk.injEq] at hp
    obtain ⟨rfl, rfl⟩ := hp
    refine call_ok hF hm n .pure f args h v h ?_ g w cargs hw hnd hfr hro hr
    unfold call callBody
    rw [hf]
    simp only [hd, hrun]
  · cases hp

end Go.Va
/-! From a run of the abstract machine to what a row asks of a law. -/
namespace Go.Va
open Go.RowKit

variable {P : Program}

/-- nothing is known of memory -/
def g0 : G := { imm := fun _ _ => none, immM := fun _ => none, inj := fun _ _ => none }

theorem wok0 (w : World) : WOk g0 h00.objs.get w := by
  rw [get_h00]
  refine ⟨fun b o a h => (by cases h), fun b ks vs h => (by cases h), fun k o h => (by cases h), fun k k' b h _ => ?_, fun k b h => ?_, fun k o h => (by cases h)⟩
  · obtain ⟨o, s, q, _⟩ := h; cases q
  · obtain ⟨o, s, q, _⟩ := h; cases q

theorem grown_of {g : G} {w w' : World} (hl : Left g0 h00 w g h00 w') : Grown w w' := by
  have t := hl.tr
  refine ⟨⟨t.os, t.output, fun i hi => ?_⟩, t.frz, t.size⟩
  rw [(t.keep i hi (fun k => no_owns)).1]
  exact (World.keptBut_refl w (fun _ => False)).2.2 i hi

/-- A LAW OF DATA -/
theorem law_calls {F : Tab} (hF : TabOk P F) (hm : P.follows .mixedOrders = true) {n : Nat} {f : FuncId} {fn : Func} {af : AFunc} (hfn : P.funcs[f]? = some fn) (hname : (fn.name == "runtime.NumGoroutine") = false) {c : Code} (hb : fn.body = some c) (hf : F f = some (.code af)) {args : List AV}
    (hd : AV.datas args = some args) (hrun : callPure (exec F n) af args = some (.bool true)) {cargs : List Value} (hr : RL g0 args cargs) (w : World) :
    Calls P f cargs.toArray w fun e w' => e = .returned (.bool true) ∧ Grown w w' := by
  have hc : call F n .pure f args h00 = some (.bool true, h00) := by
    unfold call callBody
    rw [hf]
    simp only [hd, hrun]
  rcases call_ok hF hm n .pure f args h00 _ _ hc g0 w cargs (wok0 w) List.nodup_nil (fun _ _ _ => rfl) (Nat.le_refl 0) hr with ⟨v, w', h1, _⟩ | ⟨_, h2⟩
  · rw [run_callFunc_body hfn hname hb] at h1
    cases h1
  · refine Calls.mono h2 fun e w' he => ?_
    obtain ⟨v, rfl, g', hR, _, _, _, hl⟩ := he
    simp only [R] at hR
    exact ⟨by rw [hR], grown_of hl⟩

end Go.Va
