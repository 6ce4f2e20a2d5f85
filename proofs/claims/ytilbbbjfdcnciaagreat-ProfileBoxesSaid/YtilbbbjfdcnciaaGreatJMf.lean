/-
  Texts joined by program: What a step does to abstract memory, with no world in sight. What waits for what in a region. Regions whose order is drawn: the invariant. Regions whose order is drawn: what is ordered. Regions whose order is drawn: the next operation. Regions whose order is drawn: one operation is done. Regions whose order is drawn: one live operation. Regions whose order is drawn: one live operation, by kind. Regions whose order is drawn: one live operation, by kind (objects made, changed). Regions whose order is drawn: one live operation, by kind (writing).
-/
import Derived.Test.YtilbbbjfdcnciaaGreatJMe
/-! What a step does to abstract memory, with no world in sight. -/
namespace Go.Va

variable {P : Program} {g g' : G}

/-- one object, or none, is laid or changed -/
def Chg1 (nk : Nat) (h h' : H) : Prop :=
  ∃ X, h' = { h with objs := X } ∧ (X = h.objs ∨ (∃ k o o0, h.objs.get k = some o0 ∧ h.ro ≤ k ∧ X = h.objs.set k o) ∨ ∃ o, X = (nk, o) :: h.objs)

theorem Chg1.same (nk : Nat) (h : H) : Chg1 nk h h := ⟨h.objs, rfl, .inl rfl⟩

theorem storeV_chg {h h' : H} {n nk : Nat} {p v : AV} (hv : storeV h n p v = some h') : Chg1 nk h h' := by
  obtain ⟨k, ver, off, var, cs, _, h1, h2, _, _, _, rfl⟩ := storeV_spec hv
  exact ⟨_, rfl, .inr (.inl ⟨k, _, _, h2, h1, rfl⟩)⟩

theorem ro_le {k ro : Nat} (h : ¬ Nat.blt k ro = true) : ro ≤ k := by rw [Nat.blt_eq] at h; omega

theorem effV_chg {t : T} {nk : Nat} {h h' : H} {ao : AOp} {v : AV} (hv : effV t nk h ao = some (v, h')) : Chg1 nk h h' := by
  cases ao
  case store n p x =>
    simp only [effV] at hv
    split at hv
    · rename_i h1 hst
      simp only [Option.some.injEq, Prod.mk.injEq] at hv
      obtain ⟨_, rfl⟩ := hv
      exact storeV_chg hst
    · cases hv
  case mupd kn m k x =>
    simp only [effV] at hv
    split at hv
    · split at hv
      · rename_i h1 hst
        simp only [Option.some.injEq, Prod.mk.injEq] at hv
        obtain ⟨_, rfl⟩ := hv
        unfold mupdV at hst
        split at hst
        · split at hst
          · cases hst
          · rename_i hro
            split at hst
            · rename_i hg
              split at hst
              · simp only [Option.some.injEq] at hst; subst hst; exact ⟨_, rfl, .inr (.inl ⟨_, _, _, hg, ro_le hro, rfl⟩)⟩
              · simp only [Option.some.injEq] at hst; subst hst; exact ⟨_, rfl, .inr (.inl ⟨_, _, _, hg, ro_le hro, rfl⟩)⟩
              · cases hst
            · cases hst
        · cases hst
      · cases hv
    · cases hv
  case ment zero kn m k =>
    simp only [effV] at hv
    unfold mentV at hv
    split at hv
    · split at hv
      · cases hv
      · rename_i hro
        split at hv
        · rename_i hg
          split at hv
          · split at hv
            · simp only [Option.some.injEq, Prod.mk.injEq] at hv
              obtain ⟨_, rfl⟩ := hv
              exact Chg1.same _ _
            · cases hv
          · simp only [Option.some.injEq, Prod.mk.injEq] at hv
            obtain ⟨_, rfl⟩ := hv
            exact ⟨_, rfl, .inr (.inl ⟨_, _, _, hg, ro_le hro, rfl⟩)⟩
          · cases hv
        · cases hv
    · cases hv
  case estore m s x =>
    simp only [effV] at hv
    split at hv
    · split at hv
      · cases hv
      · rename_i hro
        split at hv
        · rename_i hg
          split at hv
          · simp only [Option.some.injEq, Prod.mk.injEq] at hv
            obtain ⟨_, rfl⟩ := hv
            exact ⟨_, rfl, .inr (.inl ⟨_, _, _, hg, ro_le hro, rfl⟩)⟩
          · cases hv
        · cases hv
    · cases hv
  case app sh by_ x y =>
    simp only [effV] at hv
    unfold appV at hv
    split at hv
    · split at hv
      · cases hv
      · rename_i hro
        simp only [Bool.or_eq_true, not_or] at hro
        split at hv
        · split at hv
          · simp only [Option.some.injEq, Prod.mk.injEq] at hv
            obtain ⟨_, rfl⟩ := hv
            exact Chg1.same _ _
          · split at hv
            · rename_i hg
              split at hv
              · simp only [Option.some.injEq, Prod.mk.injEq] at hv
                obtain ⟨_, rfl⟩ := hv
                exact ⟨_, rfl, .inr (.inl ⟨_, _, _, hg, ro_le hro.1.1.1, rfl⟩)⟩
              · cases hv
            · cases hv
        · cases hv
    · split at hv
      · simp only [Option.some.injEq, Prod.mk.injEq] at hv
        obtain ⟨_, rfl⟩ := hv
        exact ⟨_, rfl, .inr (.inr ⟨_, rfl⟩)⟩
      · simp only [Option.some.injEq, Prod.mk.injEq] at hv
        obtain ⟨_, rfl⟩ := hv
        exact Chg1.same _ _
      · cases hv
  case clear zero x =>
    simp only [effV] at hv
    split at hv
    · simp only [Option.some.injEq, Prod.mk.injEq] at hv
      obtain ⟨_, rfl⟩ := hv
      exact Chg1.same _ _
    · split at hv
      · simp only [Option.some.injEq, Prod.mk.injEq] at hv
        obtain ⟨_, rfl⟩ := hv
        exact Chg1.same _ _
      · split at hv
        · cases hv
        · rename_i hro
          split at hv
          · rename_i hg
            split at hv
            · simp only [Option.some.injEq, Prod.mk.injEq] at hv
              obtain ⟨_, rfl⟩ := hv
              exact ⟨_, rfl, .inr (.inl ⟨_, _, _, hg, ro_le hro, rfl⟩)⟩
            · cases hv
          · cases hv
    · cases hv
  all_goals simp [effV] at hv

/-- what a step of a draw region does, by its kind -/
theorem stepV_chg {call : CallF} {base j : Nat} {t : T} {h h' : H} {ao : AOp} {v : AV} (hv : stepV call true base j t h ao = some (v, h')) (hE : ao.kd.isCallE = false) : Chg1 (base + j) h h' ∧ (ao.kd.still = true → h' = h) := by
  unfold stepV at hv
  cases hk : ao.kd <;> rw [hk] at hv hE <;> simp only [Kd.isCallE, if_true, Bool.true_eq_false] at hv hE
  case inert =>
    split at hv
    · simp only [Option.some.injEq, Prod.mk.injEq] at hv
      obtain ⟨_, rfl⟩ := hv
      exact ⟨Chg1.same _ _, fun _ => rfl⟩
    · cases hv
  case mem =>
    split at hv
    · simp only [Option.some.injEq, Prod.mk.injEq] at hv
      obtain ⟨_, rfl⟩ := hv
      exact ⟨Chg1.same _ _, fun _ => rfl⟩
    · cases hv
  case alloc =>
    split at hv
    · simp only [Option.some.injEq, Prod.mk.injEq] at hv
      obtain ⟨_, rfl⟩ := hv
      exact ⟨⟨_, rfl, .inr (.inr ⟨_, rfl⟩)⟩, fun h => by simp [Kd.still] at h⟩
    · simp only [Option.some.injEq, Prod.mk.injEq] at hv
      obtain ⟨_, rfl⟩ := hv
      exact ⟨Chg1.same _ _, fun _ => rfl⟩
    · cases hv
  case eff => exact ⟨effV_chg hv, fun h => by simp [Kd.still] at h⟩
  case effN =>
    split at hv
    · split at hv
      · split at hv
        · split at hv
          · rename_i h1 hst
            simp only [Option.some.injEq, Prod.mk.injEq] at hv
            obtain ⟨_, rfl⟩ := hv
            exact ⟨storeV_chg hst, fun h => by simp [Kd.still] at h⟩
          · cases hv
        · cases hv
      · cases hv
    · cases hv
  case call =>
    split at hv
    · split at hv
      · simp only [Option.some.injEq, Prod.mk.injEq] at hv
        obtain ⟨_, rfl⟩ := hv
        exact ⟨Chg1.same _ _, fun _ => rfl⟩
      · cases hv
    · cases hv
  case none => cases hv

theorem Chg1.facts {nk : Nat} {h h' : H} (hc : Chg1 nk h h') (hnk : h.ro ≤ nk) : h'.cnt = h.cnt ∧ h'.ro = h.ro ∧ (∀ k, k < h.ro → h'.objs.get k = h.objs.get k) ∧ (h.objs.get nk = none → Nd h.objs → Nd h'.objs) ∧
    ∀ k, k ≠ nk → h.objs.get k = none → h'.objs.get k = none := by
  obtain ⟨X, rfl, rfl | ⟨k, o, o0, h1, h2, rfl⟩ | ⟨o, rfl⟩⟩ := hc
  · exact ⟨rfl, rfl, fun _ _ => rfl, fun _ h => h, fun _ _ h => h⟩
  · have hg := Objs.get_set h.objs k o o0 h1
    refine ⟨rfl, rfl, fun n hn => ?_, fun _ hd => hd.set k o, fun n _ hn => ?_⟩
    · show (h.objs.set k o).get n = _
      rw [hg, upd_other _ _ (by omega)]
    · show (h.objs.set k o).get n = _
      rw [hg, upd_other _ _ (by rintro rfl; rw [hn] at h1; cases h1)]
      exact hn
  · refine ⟨rfl, rfl, fun n hn => ?_, fun hx hd => hd.cons hx o, fun n hn hx => ?_⟩
    · show Objs.get ((nk, o) :: h.objs) n = _
      rw [Objs.get_cons, upd_other _ _ (by omega)]
    · show Objs.get ((nk, o) :: h.objs) n = _
      rw [Objs.get_cons, upd_other _ _ hn]
      exact hx

/-- is operation x run where temporaries are t? -/
def Live (x : AOpr) (t : T) : Prop := x.guard = none ∨ ∃ gd w, x.guard = some (gd, w) ∧ t.get gd = .bool w

def StepAt (call : CallF) (base n : Nat) (x : AOpr) (t t1 : T) (h h1 : H) (v : AV) : Prop :=
  t1 = t.put x.dst v ∧ ((Live x t ∧ stepV call true base n t h x.op = some (v, h1)) ∨ ((∃ gd w b, x.guard = some (gd, w) ∧ t.get gd = .bool b ∧ b ≠ w) ∧ v = .bot ∧ h1 = h))

def TrAt (call : CallF) (base j : Nat) (r : List AOpr) (t : T) (h : H) (t' : T) (h' : H) : Prop :=
  ∃ (tt : Nat → T) (hh : Nat → H) (val : Nat → AV), tt j = t ∧ hh j = h ∧ tt (j + r.length) = t' ∧ hh (j + r.length) = h' ∧
    ∀ i x, r[i]? = some x → StepAt call base (j + i) x (tt (j + i)) (tt (j + i + 1)) (hh (j + i)) (hh (j + i + 1)) (val (j + i))

theorem TrAt.cons {call : CallF} {base j : Nat} {x : AOpr} {r : List AOpr} {t t1 t' : T} {h h1 h' : H} {v : AV} (hs : StepAt call base j x t t1 h h1 v) (hr : TrAt call base (j + 1) r t1 h1 t' h') : TrAt call base j (x :: r) t h t' h' := by
  obtain ⟨tt, hh, val, q1, q2, q3, q4, q5⟩ := hr
  refine ⟨fun n => if n ≤ j then t else tt n, fun n => if n ≤ j then h else hh n, fun n => if n = j then v else val n, by simp, by simp, ?_, ?_, fun i y hy => ?_⟩
  · simp only [List.length_cons]; rw [if_neg (by omega), ← q3]; congr 1; omega
  · simp only [List.length_cons]; rw [if_neg (by omega), ← q4]; congr 1; omega
  · cases i with
    | zero =>
      simp only [List.getElem?_cons_zero, Option.some.injEq] at hy
      subst hy
      have e : ¬ j + 1 ≤ j := by omega
      simp only [Nat.add_zero, Nat.le_refl, if_true, e, if_false, q1, q2]
      exact hs
    | succ i =>
      have := q5 i y (by simpa using hy)
      have e1 : ¬ j + (i + 1) + 1 ≤ j := by omega
      have e2 : ¬ j + (i + 1) ≤ j := by omega
      have e3 : ¬ j + (i + 1) = j := by omega
      have e4 : j + 1 + i = j + (i + 1) := by omega
      rw [e4] at this
      simp only [e1, e2, e3, if_false]
      exact this

theorem run_trace {call : CallF} {base : Nat} {t' : T} {h' : H} : ∀ (r : List AOpr) (j : Nat) (t : T) (h : H), runOps call true base j r t h = some (t', h') → TrAt call base j r t h t' h'
  | [], j, t, h, hr => by
    simp only [runOps, Option.some.injEq, Prod.mk.injEq] at hr
    obtain ⟨rfl, rfl⟩ := hr
    exact ⟨fun _ => t, fun _ => h, fun _ => .bot, rfl, rfl, rfl, rfl, fun i x hx => by simp at hx⟩
  | x :: r, j, t, h, hr => by
    have go : ∀ (hl : Live x t), (match stepV call true base j t h x.op with | some (v, h) => runOps call true base (j + 1) r (t.put x.dst v) h | none => none) = some (t', h') → TrAt call base j (x :: r) t h t' h' := by
      intro hl hq
      split at hq
      · rename_i v h1 hst
        exact TrAt.cons ⟨rfl, .inl ⟨hl, hst⟩⟩ (run_trace r (j + 1) _ h1 hq)
      · cases hq
    simp only [runOps] at hr
    split at hr
    · rename_i hg; exact go (.inl hg) hr
    · rename_i gd w hg
      split at hr
      · rename_i b hb
        split at hr
        · rename_i hbw
          have : b = w := by simpa using hbw
          subst this
          exact go (.inr ⟨gd, b, hg, hb⟩) hr
        · rename_i hbw
          exact TrAt.cons ⟨rfl, .inr ⟨⟨gd, w, b, hg, hb, by simpa using hbw⟩, rfl, rfl⟩⟩ (run_trace r (j + 1) _ h hr)
      · cases hr

end Go.Va
/-! What waits for what in a region. -/
namespace Go.Va

variable {P : Program} {g g' : G}

def SOf (listed : Array Bool) (i : Nat) : Prop := listed.getD i false = true

def Closed (ops : Array Oper) (S : Nat → Prop) : Prop := ∀ i, S i → ∀ o, ops[i]? = some o → ∀ e ∈ o.after, Region.binds .any e = true → S e.on

theorem mem_ready {ops : Array Oper} {listed : Array Bool} {i : Nat} : i ∈ Region.ready .any ops listed ↔
    i < ops.size ∧ listed.getD i true = false ∧ ∃ o, ops[i]? = some o ∧ ∀ e ∈ o.after, Region.binds .any e = true → SOf listed e.on := by
  unfold Region.ready
  simp only [List.mem_filter, List.mem_range, Bool.and_eq_true, Bool.not_eq_true']
  constructor
  · rintro ⟨h1, h2, h3⟩
    refine ⟨h1, h2, ops[i], by simp [h1], fun e he hb => ?_⟩
    rw [Array.getElem?_eq_getElem h1] at h3
    simp only [Option.map_some, Option.getD_some, Array.all_eq_true_iff_forall_mem] at h3
    have := h3 e he
    simpa [hb, SOf] using this
  · rintro ⟨h1, h2, o, h3, h4⟩
    refine ⟨h1, h2, ?_⟩
    rw [h3]
    simp only [Option.map_some, Option.getD_some, Array.all_eq_true_iff_forall_mem]
    intro e he
    cases hb : Region.binds .any e with
    | false => simp
    | true => simpa [SOf] using h4 e he hb

theorem one_bit {look : Nat → Nat} {o : Oper} {k : Nat} (h : (CheckFast.one look o).testBit k = true) : ∃ e ∈ o.after, Region.binds .any e = true ∧ (e.on = k ∨ (look e.on).testBit k = true) := by
  unfold CheckFast.one at h
  rw [← Array.foldl_toList] at h
  have key : ∀ (l : List Edge) (s : Nat), (l.foldl (fun s e => if Region.binds .any e then s ||| 2 ^ e.on ||| look e.on else s) s).testBit k = true → s.testBit k = true ∨ ∃ e ∈ l, Region.binds .any e = true ∧ (e.on = k ∨ (look e.on).testBit k = true) := by
    intro l
    induction l with
    | nil => intro s hs; exact .inl hs
    | cons e l ih =>
      intro s hs
      simp only [List.foldl_cons] at hs
      rcases ih _ hs with h1 | ⟨e', h1, h2⟩
      · split at h1
        · rename_i hb
          simp only [Nat.testBit_or, Bool.or_eq_true, Nat.testBit_two_pow, decide_eq_true_eq] at h1
          rcases h1 with (h1 | h1) | h1
          · exact .inl h1
          · exact .inr ⟨e, by simp, hb, .inl h1⟩
          · exact .inr ⟨e, by simp, hb, .inr h1⟩
        · exact .inl h1
      · exact .inr ⟨e', by simp [h1], h2⟩
  rcases key _ 0 h with h | ⟨e, he, h⟩
  · simp at h
  · exact ⟨e, by simpa using he, h⟩

theorem bits_pre : ∀ (r : List Oper) (acc : List Nat) (i : Nat), i < acc.length → (bitsFrom r acc)[i]? = acc[i]?
  | [], acc, i, _ => rfl
  | o :: r, acc, i, hi => by
    simp only [bitsFrom, CheckFast.force_eq]
    rw [bits_pre r _ i (by simp; omega), List.getElem?_append_left hi]

theorem bits_at : ∀ (r : List Oper) (acc : List Nat) (i : Nat) (o : Oper), r[i]? = some o →
    (bitsFrom r acc).getD (acc.length + i) 0 = CheckFast.one (fun k => if k < acc.length + i then (bitsFrom r acc).getD k 0 else 0) o
  | [], acc, i, o, h => by simp at h
  | x :: r, acc, i, o, h => by
    cases i with
    | zero =>
      simp only [List.getElem?_cons_zero, Option.some.injEq] at h
      subst h
      simp only [Nat.add_zero]
      have h1 : (bitsFrom (x :: r) acc)[acc.length]? = some (CheckFast.one (fun i => acc.getD i 0) x) := by
        simp only [bitsFrom, CheckFast.force_eq]
        rw [bits_pre r _ _ (by simp)]
        simp
      rw [List.getD_eq_getElem?_getD, h1, Option.getD_some]
      congr 1
      funext k
      split
      · rename_i hk
        rw [List.getD_eq_getElem?_getD, List.getD_eq_getElem?_getD, bits_pre _ _ _ hk]
      · rename_i hk
        rw [List.getD_eq_getElem?_getD, List.getElem?_eq_none (by omega)]
        rfl
    | succ i =>
      have := bits_at r (acc ++ [CheckFast.one (fun i => acc.getD i 0) x]) i o (by simpa using h)
      simp only [bitsFrom, CheckFast.force_eq]
      simp only [List.length_append, List.length_singleton] at this
      rw [show acc.length + (i + 1) = acc.length + 1 + i by omega]
      exact this

/-- what op j waits for -/
theorem bit_spec {ops : List Oper} {j k : Nat} {o : Oper} (ho : ops[j]? = some o) (h : ((bitsFrom ops []).getD j 0).testBit k = true) :
    ∃ e ∈ o.after, Region.binds .any e = true ∧ (e.on = k ∨ (e.on < j ∧ ((bitsFrom ops []).getD e.on 0).testBit k = true)) := by
  have hb := bits_at ops [] j o ho
  simp only [List.length_nil, Nat.zero_add] at hb
  rw [hb] at h
  obtain ⟨e, he, h1, h2⟩ := one_bit h
  refine ⟨e, he, h1, ?_⟩
  rcases h2 with h2 | h2
  · exact .inl h2
  · split at h2
    · rename_i hlt; exact .inr ⟨hlt, h2⟩
    · simp at h2

theorem closed_bit {ops : Array Oper} {S : Nat → Prop} (hS : Closed ops S) : ∀ (j : Nat) {k : Nat}, j < ops.size → S j → ((bitsFrom ops.toList []).getD j 0).testBit k = true → S k := by
  intro j
  induction j using Nat.strongRecOn with
  | _ j ih =>
    intro k hj hs h
    have ho : ops.toList[j]? = some ops[j] := by simp [hj]
    obtain ⟨e, he, hb, h2⟩ := bit_spec ho h
    have hse := hS j hs ops[j] (by simp [hj]) e he hb
    rcases h2 with rfl | ⟨hlt, h2⟩
    · exact hse
    · exact ih e.on hlt (by omega) hse h2

/-- what is ready has what it waits for -/
theorem ready_bit {ops : Array Oper} {S : Nat → Prop} (hS : Closed ops S) {i k : Nat} {o : Oper} (ho : ops[i]? = some o) (hr : ∀ e ∈ o.after, Region.binds .any e = true → S e.on) (h : ((bitsFrom ops.toList []).getD i 0).testBit k = true) : S k := by
  obtain ⟨e, he, hb, h2⟩ := bit_spec (ops := ops.toList) (by simpa using ho) h
  have hse := hr e he hb
  have hi := (Array.getElem?_eq_some_iff.1 ho).1
  rcases h2 with rfl | ⟨hlt, h2⟩
  · exact hse
  · exact closed_bit hS e.on (by omega) hse h2

theorem clashRow_spec {ex : List (Nat × Nat)} {bits : Nat} {y : AOpr} : ∀ (l : List AOpr) (i0 : Nat), clashRow ex bits y i0 l = true → ∀ i x, l[i]? = some x → clash ex x y = true → bits.testBit (i0 + i) = true
  | [], _, _, i, x, hx, _ => by simp at hx
  | a :: l, i0, h, i, x, hx, hc => by
    simp only [clashRow, Bool.and_eq_true, Bool.or_eq_true, Bool.not_eq_true'] at h
    cases i with
    | zero =>
      simp only [List.getElem?_cons_zero, Option.some.injEq] at hx
      subst hx
      rcases h.1 with h1 | h1
      · rw [hc] at h1; cases h1
      · exact h1
    | succ i =>
      have := clashRow_spec l (i0 + 1) h.2 i x (by simpa using hx) hc
      rw [show i0 + (i + 1) = i0 + 1 + i by omega]; exact this

theorem clashes_spec {ex : List (Nat × Nat)} {all : List AOpr} {bits : List Nat} : ∀ (r : List AOpr) (j0 : Nat), clashes ex all bits j0 r = true → ∀ j y, r[j]? = some y → ∀ i x, i < j0 + j → all[i]? = some x → clash ex x y = true → (bits.getD (j0 + j) 0).testBit i = true
  | [], _, _, j, y, hy, _, _, _, _, _ => by simp at hy
  | a :: r, j0, h, j, y, hy, i, x, hi, hx, hc => by
    simp only [clashes, Bool.and_eq_true] at h
    cases j with
    | zero =>
      simp only [List.getElem?_cons_zero, Option.some.injEq] at hy
      subst hy
      have := clashRow_spec _ 0 h.1 i x (by rw [List.getElem?_take]; rw [if_pos (by omega)]; exact hx) hc
      simpa using this
    | succ j =>
      have := clashes_spec r (j0 + 1) h.2 j y (by simpa using hy) i x (by omega) hx hc
      rw [show j0 + (j + 1) = j0 + 1 + j by omega]; exact this

theorem edgesBack_spec : ∀ (r : List Oper) (j0 : Nat), edgesBack j0 r = true → ∀ j o, r[j]? = some o → ∀ e ∈ o.after, Region.binds .any e = true → e.on < j0 + j
  | [], _, _, j, o, ho, _, _, _ => by simp at ho
  | a :: r, j0, h, j, o, ho, e, he, hb => by
    simp only [edgesBack, Bool.and_eq_true, List.all_eq_true] at h
    cases j with
    | zero =>
      simp only [List.getElem?_cons_zero, Option.some.injEq] at ho
      subst ho
      have := h.1 e (by simpa using he)
      simpa [hb, Nat.blt_eq] using this
    | succ j =>
      have := edgesBack_spec r (j0 + 1) h.2 j o (by simpa using ho) e he hb
      omega

end Go.Va
/-! Regions whose order is drawn: the invariant. -/
namespace Go.Va

variable {P : Program} {g g' : G}

/-- the setting of a drawn region -/
structure DCtx (P : Program) (call : CallF) (N base : Nat) (ops : Array Oper) (ex : List (Nat × Nat)) (l : List AOpr) (tt : Nat → T) (hh : Nat → H) (val : Nat → AV) : Prop where
  len : l.length = ops.size
  ag : ∀ (i : Nat) (x : AOpr) (o : Oper), l[i]? = some x → ops[i]? = some o → agOper P N ops o x = true
  tr : ∀ (i : Nat) (x : AOpr), l[i]? = some x → StepAt call base i x (tt i) (tt (i + 1)) (hh i) (hh (i + 1)) (val i)
  back : ∀ (j : Nat) (o : Oper), ops[j]? = some o → ∀ e ∈ o.after, Region.binds .any e = true → e.on < j
  bits : ∀ (i j : Nat) (x y : AOpr), i < j → l[i]? = some x → l[j]? = some y → clash ex x y = true → ((bitsFrom ops.toList []).getD j 0).testBit i = true
  exok : exOk (tt 0) ex = true
  stays : exStays ex l = true
  calls : callEs l = true
  cnt : (hh 0).cnt = base + l.length
  ro : (hh 0).ro ≤ base
  new : ∀ i, i < l.length → (hh 0).objs.get (base + i) = none
  nd : Nd (hh 0).objs

section
variable {call : CallF} {N base : Nat} {ops : Array Oper} {ex : List (Nat × Nat)} {l : List AOpr} {tt : Nat → T} {hh : Nat → H} {val : Nat → AV}

/-- is there a call that changes memory? -/
def hasE (l : List AOpr) : Prop := ∃ (i : Nat) (x : AOpr), l[i]? = some x ∧ x.op.kd.isCallE = true

theorem DCtx.still (D : DCtx P call N base ops ex l tt hh val) (hE : hasE l) {i : Nat} {x : AOpr} (hx : l[i]? = some x) : x.op.kd.isCallE = true ∨ x.op.kd.still = true := by
  have h := D.calls
  unfold callEs at h
  simp only [Bool.or_eq_true, Bool.not_eq_true', List.all_eq_true] at h
  rcases h with h | h
  · obtain ⟨j, y, hy, hk⟩ := hE
    have := List.any_eq_false.1 h y (List.mem_of_getElem? hy)
    exact absurd hk this
  · exact h x (List.mem_of_getElem? hx)

/-- what a step does, where no call changes memory -/
theorem DCtx.step (D : DCtx P call N base ops ex l tt hh val) {i : Nat} {x : AOpr} (hx : l[i]? = some x) (hk : x.op.kd.isCallE = false) : Chg1 (base + i) (hh i) (hh (i + 1)) ∧ (x.op.kd.still = true → hh (i + 1) = hh i) := by
  obtain ⟨_, h | ⟨_, _, h⟩⟩ := D.tr i x hx
  · exact stepV_chg h.2 hk
  · rw [h]; exact ⟨Chg1.same _ _, fun _ => rfl⟩

theorem DCtx.notE (hE : ¬ hasE l) {i : Nat} {x : AOpr} (hx : l[i]? = some x) : x.op.kd.isCallE = false := by
  cases h : x.op.kd.isCallE with
  | false => rfl
  | true => exact absurd ⟨i, x, hx, h⟩ hE

theorem at_lt {l : List AOpr} {i : Nat} (hi : i < l.length) : l[i]? = some l[i] := List.getElem?_eq_getElem hi

/-- no call changes memory: what holds of memory all along -/
theorem DCtx.plain (D : DCtx P call N base ops ex l tt hh val) (hE : ¬ hasE l) : ∀ i, i ≤ l.length → (hh i).cnt = base + l.length ∧ (hh i).ro = (hh 0).ro ∧ Nd (hh i).objs ∧ (∀ j, i ≤ j → j < l.length → (hh i).objs.get (base + j) = none) ∧
    ∀ k, k < (hh 0).ro → (hh i).objs.get k = (hh 0).objs.get k
  | 0, _ => ⟨D.cnt, rfl, D.nd, fun j _ hj => D.new j hj, fun _ _ => rfl⟩
  | i + 1, hi => by
    obtain ⟨h1, h2, h3, h4, h5⟩ := D.plain hE i (by omega)
    have hx := at_lt (l := l) (i := i) (by omega)
    obtain ⟨c1, c2, c3, c4, c5⟩ := (D.step hx (DCtx.notE hE hx)).1.facts (by rw [h2]; have := D.ro; omega)
    refine ⟨by rw [c1, h1], by rw [c2, h2], c4 (h4 i (Nat.le_refl _) (by omega)) h3, fun j hj hjl => c5 _ (by omega) (h4 j (by omega) hjl), fun k hk => ?_⟩
    rw [c3 k (by rw [h2]; exact hk)]; exact h5 k hk

/-- operation j changes what key k holds -/
def chg (hh : Nat → H) (j k : Nat) : Prop := (hh (j + 1)).objs.get k ≠ (hh j).objs.get k

theorem hconst {k a : Nat} : ∀ b, a ≤ b → (∀ j, a ≤ j → j < b → ¬ chg hh j k) → (hh b).objs.get k = (hh a).objs.get k := by
  intro b hb
  induction hb with
  | refl => intro _; rfl
  | step hb ih =>
    rename_i b'
    intro h
    have h1 := h b' hb (Nat.lt_succ_self _)
    unfold chg at h1
    rw [Classical.not_not.1 h1]
    exact ih fun j h2 h3 => h j h2 (by omega)

/-- the temporaries at i: the last writer's -/
theorem DCtx.tt_get (D : DCtx P call N base ops ex l tt hh val) (d : Nat) : ∀ i, i ≤ l.length →
    (∃ j x, j < i ∧ l[j]? = some x ∧ x.dst = some d ∧ (∀ j' x', j' < i → l[j']? = some x' → x'.dst = some d → j' ≤ j) ∧ (tt i).get d = val j) ∨
    ((∀ j x, j < i → l[j]? = some x → x.dst ≠ some d) ∧ (tt i).get d = (tt 0).get d)
  | 0, _ => .inr ⟨fun j x hj => by omega, rfl⟩
  | i + 1, hi => by
    have hx := at_lt (l := l) (i := i) (by omega)
    have hput := (D.tr i _ hx).1
    rw [hput, T.get_put]
    split
    · rename_i hd
      exact .inl ⟨i, _, Nat.lt_succ_self _, hx, hd, fun j' x' hj' _ _ => by omega, rfl⟩
    · rename_i hd
      rcases D.tt_get d i (by omega) with ⟨j, x, h1, h2, h3, h4, h5⟩ | ⟨h1, h2⟩
      · refine .inl ⟨j, x, by omega, h2, h3, fun j' x' hj' hx' hd' => ?_, h5⟩
        by_cases he : j' = i
        · subst he
          rw [hx] at hx'
          simp only [Option.some.injEq] at hx'; subst hx'
          exact absurd hd' hd
        · exact h4 j' x' (by omega) hx' hd'
      · refine .inr ⟨fun j x hj hxj hd' => ?_, h2⟩
        by_cases he : j = i
        · subst he
          rw [hx] at hxj
          simp only [Option.some.injEq] at hxj; subst hxj
          exact absurd hd' hd
        · exact h1 j x (by omega) hxj hd'

/-- where a region stands: what is done (S), what there is -/
structure DInv (l : List AOpr) (tt : Nat → T) (hh : Nat → H) (val : Nat → AV) (base N : Nat) (g0 : G) (h0 : H) (w0 : World) (S : Nat → Prop) (g : G) (m : Mem) (a : Act) (w : World) : Prop where
  tmp : ∀ d, (∃ j x, S j ∧ l[j]? = some x ∧ x.dst = some d ∧ (∀ j' x', S j' → l[j']? = some x' → x'.dst = some d → j' ≤ j) ∧ R g (val j) (a.tmps.getD d undef)) ∨
    ((∀ j x, S j → l[j]? = some x → x.dst ≠ some d) ∧ R g ((tt 0).get d) (a.tmps.getD d undef))
  mem : ∀ k, (∃ j, S j ∧ chg hh j k ∧ (∀ j', S j' → chg hh j' k → j' ≤ j) ∧ m k = (hh (j + 1)).objs.get k) ∨ ((∀ j, S j → ¬ chg hh j k) ∧ m k = (hh 0).objs.get k)
  wok : WOk g m w
  fresh : Fresh g (· < base + l.length)
  left : ∀ i, i < l.length → ¬ S i → ∀ ver, g.inj (base + i) ver = none
  lt : ∀ i, S i → i < l.length
  size : N ≤ a.tmps.size
  defers : a.defers = []
  tr : Tr base (fun _ => False) g0 h0.objs.get w0 g m w
  effN : ∀ j x n p v ver off i, S j → l[j]? = some x → Live x (tt j) → x.op = .storeN n p v → p.ev (tt j) = .ptr (base + i) ver off → i < l.length → S i
  callE : ∀ j x, S j → l[j]? = some x → x.op.kd.isCallE = true → (hh (j + 1)).cnt = (hh j).cnt ∧ (hh (j + 1)).ro = (hh j).ro ∧ (Nd (hh j).objs → Nd (hh (j + 1)).objs) ∧ ∀ k, k < (hh j).ro → (hh (j + 1)).objs.get k = (hh j).objs.get k

/-- memory is at i as in the run in the text's order -/
theorem DInv.mem_eq {g0 : G} {h0 : H} {w0 : World} {S : Nat → Prop} {m : Mem} {a : Act} {w : World} (I : DInv l tt hh val base N g0 h0 w0 S g m a w) {i k : Nat} (hi : ¬ S i)
    (h1 : ∀ j, j < i → chg hh j k → S j) (h2 : ∀ j, i < j → S j → ¬ chg hh j k) : m k = (hh i).objs.get k := by
  rcases I.mem k with ⟨j, q1, q2, q3, q4⟩ | ⟨q1, q2⟩
  · have hj : j < i := by
      rcases Nat.lt_trichotomy j i with h | h | h
      · exact h
      · subst h; exact absurd q1 hi
      · exact absurd q2 (h2 j h q1)
    rw [q4, ← hconst i (a := j + 1) (by omega) fun j' p1 p2 p3 => ?_]
    have := q3 j' (h1 j' p2 p3) p3
    omega
  · rw [q2, ← hconst i (a := 0) (Nat.zero_le _) fun j' _ p2 p3 => q1 j' (h1 j' p2 p3) p3]

/-- a temporary is at i as in the run in the text's order -/
theorem DInv.tmp_eq (D : DCtx P call N base ops ex l tt hh val) {g0 : G} {h0 : H} {w0 : World} {S : Nat → Prop} {m : Mem} {a : Act} {w : World} (I : DInv l tt hh val base N g0 h0 w0 S g m a w) {i d : Nat} (hil : i ≤ l.length) (hi : ¬ S i)
    (h1 : ∀ j x, j < i → l[j]? = some x → x.dst = some d → S j) (h2 : ∀ j x, i < j → S j → l[j]? = some x → x.dst ≠ some d) : R g ((tt i).get d) (a.tmps.getD d undef) := by
  rcases I.tmp d with ⟨j, x, q1, q2, q3, q4, q5⟩ | ⟨q1, q2⟩
  · have hj : j < i := by
      rcases Nat.lt_trichotomy j i with h | h | h
      · exact h
      · subst h; exact absurd q1 hi
      · exact absurd q3 (h2 j x h q1 q2)
    rcases D.tt_get d i hil with ⟨j', x', p1, p2, p3, p4, p5⟩ | ⟨p1, _⟩
    · have e1 := p4 j x hj q2 q3
      have e2 := q4 j' x' (h1 j' x' p1 p2 p3) p2 p3
      have : j = j' := by omega
      subst this
      rw [p5]; exact q5
    · exact absurd q3 (p1 j x hj q2)
  · rcases D.tt_get d i hil with ⟨j', x', p1, p2, p3, p4, p5⟩ | ⟨_, p2⟩
    · exact absurd p3 (q1 j' x' (h1 j' x' p1 p2 p3) p2)
    · rw [p2]; exact q2

end

end Go.Va
/-! Regions whose order is drawn: what is ordered. -/
namespace Go.Va

variable {P : Program} {g g' : G}

section
variable {call : CallF} {N base : Nat} {ops : Array Oper} {ex : List (Nat × Nat)} {l : List AOpr} {tt : Nat → T} {hh : Nat → H} {val : Nat → AV}

/-- what may change an object -/
def ByKind (base : Nat) (x : AOpr) (j k : Nat) (t : T) : Prop :=
  x.op.kd.isEff = true ∨ (x.op.kd = .alloc ∧ k = base + j) ∨ ∃ n p v ver off, Live x t ∧ x.op = .storeN n p v ∧ p.ev t = .ptr k ver off ∧ base ≤ k

theorem DCtx.chg_kind (D : DCtx P call N base ops ex l tt hh val) {j k : Nat} {x : AOpr} (hx : l[j]? = some x) (hc : chg hh j k) : ByKind base x j k (tt j) := by
  obtain ⟨_, ⟨hl, hv⟩ | ⟨_, _, h⟩⟩ := D.tr j x hx
  · unfold ByKind
    cases hk : x.op.kd
    case eff => exact .inl rfl
    case callE => exact .inl rfl
    case alloc =>
      refine .inr (.inl ⟨rfl, ?_⟩)
      unfold stepV at hv
      rw [hk] at hv
      simp only [if_true] at hv
      split at hv
      · simp only [Option.some.injEq, Prod.mk.injEq] at hv
        obtain ⟨_, h⟩ := hv
        unfold chg at hc
        rw [← h] at hc
        refine Decidable.byContradiction fun hne => hc ?_
        show Objs.get (_ :: _) k = _
        rw [Objs.get_cons, upd_other _ _ hne]
      · simp only [Option.some.injEq, Prod.mk.injEq] at hv
        exact absurd (by rw [hv.2]) hc
      · cases hv
    case effN =>
      refine .inr (.inr ?_)
      unfold stepV at hv
      rw [hk] at hv
      simp only at hv
      split at hv
      · rename_i n p v hop
        split at hv
        · rename_i k' ver off hp
          split at hv
          · rename_i hb
            rw [Nat.ble_eq] at hb
            split at hv
            · rename_i h1 hst
              simp only [Option.some.injEq, Prod.mk.injEq] at hv
              obtain ⟨_, h⟩ := hv
              subst h
              obtain ⟨k1, ver1, off1, var, cs, e1, e2, e3, _, _, _, e4⟩ := storeV_spec hst
              simp only [AV.ptr.injEq] at e1
              obtain ⟨rfl, rfl, rfl⟩ := e1
              have : k = k' := by
                refine Decidable.byContradiction fun hne => hc ?_
                rw [e4]
                show (Objs.set _ _ _).get k = _
                rw [Objs.get_set _ _ _ _ e3, upd_other _ _ hne]
              subst this
              exact ⟨n, p, v, ver, off, hl, hop, hp, hb⟩
            · cases hv
          · cases hv
        · cases hv
      · cases hv
    case none =>
      unfold stepV at hv
      rw [hk] at hv
      cases hv
    all_goals
      have := (stepV_chg hv (by rw [hk]; rfl)).2 (by rw [hk]; rfl)
      exact absurd (by rw [this]) hc
  · exact absurd (by rw [h]) hc

/-- what is ready waits for nothing -/
structure Ready (ops : Array Oper) (S : Nat → Prop) (i : Nat) (o : Oper) : Prop where
  at_ : ops[i]? = some o
  no : ¬ S i
  closed : Closed ops S
  edges : ∀ e ∈ o.after, Region.binds .any e = true → S e.on

theorem DCtx.before (D : DCtx P call N base ops ex l tt hh val) {S : Nat → Prop} {i k : Nat} {o : Oper} {x y : AOpr} (r : Ready ops S i o) (hk : k < i) (hx : l[k]? = some x) (hy : l[i]? = some y) (hc : clash ex x y = true) : S k :=
  ready_bit r.closed r.at_ r.edges (D.bits k i x y hk hx hy hc)

theorem DCtx.after (D : DCtx P call N base ops ex l tt hh val) {S : Nat → Prop} {i j : Nat} {o : Oper} {x y : AOpr} (r : Ready ops S i o) (hj : i < j) (hx : l[i]? = some x) (hy : l[j]? = some y) (hc : clash ex x y = true) : ¬ S j := fun hs => by
  have hlt := (List.getElem?_eq_some_iff.1 hy).1
  exact r.no (closed_bit r.closed j (by rw [← D.len]; exact hlt) hs (D.bits i j x y hj hx hy hc))

theorem apart_kinds {ex : List (Nat × Nat)} {x y : AOp} (h : apartOps ex x y = true) : (∃ sh p n q v, x = .load sh (.t p) ∧ y = .store n (.t q) v ∧ (p, q) ∈ ex) ∨ (∃ sh p n q v, y = .load sh (.t p) ∧ x = .store n (.t q) v ∧ (p, q) ∈ ex) := by
  unfold apartOps at h
  split at h
  · exact .inl ⟨_, _, _, _, _, rfl, rfl, by simpa using h⟩
  · exact .inr ⟨_, _, _, _, _, rfl, rfl, by simpa using h⟩
  · cases h

/-- operations of which one writes, the other touches memory, clash but for the pairs that are apart -/
theorem clash_eff {ex : List (Nat × Nat)} {x y : AOpr} (h1 : x.op.kd.isEff = true) (h2 : y.op.kd.isInert = false) (h3 : apartOps ex x.op y.op = false) : clash ex x y = true := by
  unfold clash
  simp [h1, h2, h3]

theorem clash_eff' {ex : List (Nat × Nat)} {x y : AOpr} (h1 : y.op.kd.isEff = true) (h2 : x.op.kd.isInert = false) (h3 : apartOps ex x.op y.op = false) : clash ex x y = true := by
  unfold clash
  simp [h1, h2, h3]

theorem clash_effN {ex : List (Nat × Nat)} {x y : AOpr} (h1 : x.op.kd.isEffN = true) (h2 : y.op.kd.isEffN = true) : clash ex x y = true := by
  unfold clash
  simp [h1, h2]

theorem clash_dst {ex : List (Nat × Nat)} {x y : AOpr} {d : Nat} (h1 : x.dst = some d) (h2 : d ∈ y.looks) : clash ex x y = true := by
  unfold clash
  simp [h1, h2]

theorem clash_dst2 {ex : List (Nat × Nat)} {x y : AOpr} {d : Nat} (h1 : x.dst = some d) (h2 : y.dst = some d) : clash ex x y = true := by
  unfold clash
  simp [h1, h2]

theorem clash_looks {ex : List (Nat × Nat)} {x y : AOpr} {d : Nat} (h1 : y.dst = some d) (h2 : d ∈ x.looks) : clash ex x y = true := by
  unfold clash
  simp [h1, h2]

theorem apart_load {ex : List (Nat × Nat)} {x y : AOp} (h : apartOps ex x y = true) : (x.kd = .mem ∧ y.kd = .eff) ∨ (x.kd = .eff ∧ y.kd = .mem) := by
  rcases apart_kinds h with ⟨_, _, _, _, _, rfl, rfl, _⟩ | ⟨_, _, _, _, _, rfl, rfl, _⟩
  · exact .inl ⟨rfl, rfl⟩
  · exact .inr ⟨rfl, rfl⟩

/-- the temporaries that operation i looks at are as in the text's order -/
theorem DInv.looks (D : DCtx P call N base ops ex l tt hh val) {g0 : G} {h0 : H} {w0 : World} {S : Nat → Prop} {m : Mem} {a : Act} {w : World} (I : DInv l tt hh val base N g0 h0 w0 S g m a w) {i : Nat} {o : Oper} {x : AOpr}
    (r : Ready ops S i o) (hx : l[i]? = some x) {d : Nat} (hd : d ∈ x.looks) : R g ((tt i).get d) (a.tmps.getD d undef) := by
  have hlt := (List.getElem?_eq_some_iff.1 hx).1
  refine I.tmp_eq D (Nat.le_of_lt hlt) r.no (fun j y hj hy hdj => D.before r hj hy hx (clash_dst hdj hd)) fun j y hj hs hy hdj => ?_
  exact D.after r hj hx hy (clash_looks hdj hd) hs

/-- memory is as in the text's order for one that writes -/
theorem DInv.mem_eff (D : DCtx P call N base ops ex l tt hh val) {g0 : G} {h0 : H} {w0 : World} {S : Nat → Prop} {m : Mem} {a : Act} {w : World} (I : DInv l tt hh val base N g0 h0 w0 S g m a w) {i : Nat} {o : Oper} {x : AOpr}
    (r : Ready ops S i o) (hx : l[i]? = some x) (hk : x.op.kd.isEff = true) : (∀ k, m k = (hh i).objs.get k) ∧ ∀ j k, i < j → S j → ¬ chg hh j k := by
  have other : ∀ {j k : Nat} {y : AOpr}, l[j]? = some y → chg hh j k → y.op.kd.isInert = false ∧ y.op.kd ≠ .mem := by
    intro j k y hy hc
    rcases D.chg_kind hy hc with h | ⟨h, _⟩ | ⟨n, p, v, ver, off, _, h, _⟩
    · cases hq : y.op.kd <;> rw [hq] at h <;> simp [Kd.isEff] at h <;> simp [Kd.isInert]
    · rw [h]; simp [Kd.isInert]
    · rw [h]; simp [Kd.isInert, AOp.kd]
  have ap1 : ∀ {y : AOpr}, y.op.kd ≠ .mem → apartOps ex y.op x.op = false := by
    intro y hy
    cases h : apartOps ex y.op x.op with
    | false => rfl
    | true =>
      rcases apart_load h with ⟨h1, _⟩ | ⟨_, h2⟩
      · exact absurd h1 hy
      · rw [h2] at hk; simp [Kd.isEff] at hk
  have ap2 : ∀ {y : AOpr}, y.op.kd ≠ .mem → apartOps ex x.op y.op = false := by
    intro y hy
    cases h : apartOps ex x.op y.op with
    | false => rfl
    | true =>
      rcases apart_load h with ⟨h1, _⟩ | ⟨_, h2⟩
      · rw [h1] at hk; simp [Kd.isEff] at hk
      · exact absurd h2 hy
  have aft : ∀ j k, i < j → S j → ¬ chg hh j k := fun j k hj hs hc => by
    have hy := at_lt (I.lt j hs)
    obtain ⟨q1, q2⟩ := other hy hc
    exact D.after r hj hx hy (clash_eff hk q1 (ap2 q2)) hs
  refine ⟨fun k => I.mem_eq r.no (fun j hj hc => ?_) (fun j hj hs => aft j k hj hs), aft⟩
  have hlt := (List.getElem?_eq_some_iff.1 hx).1
  have hy := at_lt (l := l) (i := j) (by omega)
  obtain ⟨q1, q2⟩ := other hy hc
  exact D.before r hj hy hx (clash_eff' hk q1 (ap1 q2))

/-- memory below the region's keys is as in the text's order for one that reads it -/
theorem DInv.mem_low (D : DCtx P call N base ops ex l tt hh val) {g0 : G} {h0 : H} {w0 : World} {S : Nat → Prop} {m : Mem} {a : Act} {w : World} (I : DInv l tt hh val base N g0 h0 w0 S g m a w) {i : Nat} {o : Oper} {x : AOpr}
    (r : Ready ops S i o) (hx : l[i]? = some x) (hk : x.op.kd.isInert = false) {k : Nat} (hkb : k < base) (hap : ∀ j y, l[j]? = some y → chg hh j k → apartOps ex x.op y.op = false ∧ apartOps ex y.op x.op = false) : m k = (hh i).objs.get k := by
  have kind : ∀ {j : Nat} {y : AOpr}, l[j]? = some y → chg hh j k → y.op.kd.isEff = true := by
    intro j y hy hc
    rcases D.chg_kind hy hc with h | ⟨_, h⟩ | ⟨n, p, v, ver, off, _, _, _, h⟩
    · exact h
    · omega
    · omega
  refine I.mem_eq r.no (fun j hj hc => ?_) fun j hj hs hc => ?_
  · have hlt := (List.getElem?_eq_some_iff.1 hx).1
    have hy := at_lt (l := l) (i := j) (by omega)
    exact D.before r hj hy hx (clash_eff (kind hy hc) hk (hap j _ hy hc).2)
  · have hy := at_lt (I.lt j hs)
    exact D.after r hj hx hy (clash_eff' (kind hy hc) hk (hap j _ hy hc).1) hs

end

end Go.Va
/-! Regions whose order is drawn: the next operation. -/
namespace Go.Va

variable {P : Program} {g g' : G}

section
variable {call : CallF} {N base : Nat} {ops : Array Oper} {ex : List (Nat × Nat)} {l : List AOpr} {tt : Nat → T} {hh : Nat → H} {val : Nat → AV}

theorem DInv.next (D : DCtx P call N base ops ex l tt hh val) {g0 : G} {h0 : H} {w0 : World} {S : Nat → Prop} {m m' : Mem} {a : Act} {w w' : World} (I : DInv l tt hh val base N g0 h0 w0 S g m a w) {i : Nat} {o : Oper} {x : AOpr}
    (r : Ready ops S i o) (hx : l[i]? = some x) {cv : Value} (hR : R g' (val i) cv) (hW : WOk g' m' w') (hF : Fresh g' (· < base + l.length)) (hT : Tr (base + l.length) (· = base + i) g m w g' m' w')
    (hM : ∀ k, (chg hh i k → m' k = (hh (i + 1)).objs.get k ∧ ∀ j, S j → chg hh j k → j ≤ i) ∧ (¬ chg hh i k → m' k = m k))
    (hE : ∀ n p v ver off i', Live x (tt i) → x.op = .storeN n p v → p.ev (tt i) = .ptr (base + i') ver off → i' < l.length → S i')
    (hC : x.op.kd.isCallE = true → (hh (i + 1)).cnt = (hh i).cnt ∧ (hh (i + 1)).ro = (hh i).ro ∧ (Nd (hh i).objs → Nd (hh (i + 1)).objs) ∧ ∀ k, k < (hh i).ro → (hh (i + 1)).objs.get k = (hh i).objs.get k) :
    DInv l tt hh val base N g0 h0 w0 (fun j => S j ∨ j = i) g' m' (a.put o.dst cv) w' := by
  obtain ⟨hdst, hdN, _, _⟩ := agOper_spec (D.ag i x o hx r.at_)
  have hlt := (List.getElem?_eq_some_iff.1 hx).1
  have same : ∀ {j : Nat} {y : AOpr}, l[j]? = some y → j = i → y = x := by
    rintro j y hy rfl
    rw [hx] at hy
    exact (Option.some.inj hy).symm
  refine ⟨fun d => ?_, fun k => ?_, hW, hF, fun i' hi' hs ver => ?_, fun j hj => ?_, by rw [put_size]; exact I.size, by rw [put_defers']; exact I.defers, ?_, fun j y n p v ver off i' hj hy hl hop hp hlt' => ?_, fun j y hj hy hk => ?_⟩
  · rw [put_tmps a o.dst cv d (fun q hq => Nat.lt_of_lt_of_le (hdN q hq) I.size), hdst]
    by_cases hd : x.dst = some d
    · rw [if_pos hd]
      refine .inl ⟨i, x, .inr rfl, hx, hd, fun j' x' hj' hx' hd' => ?_, hR⟩
      rcases hj' with hj' | rfl
      · exact Nat.le_of_not_lt fun hgt => D.after r hgt hx hx' (clash_dst2 hd hd') hj'
      · exact Nat.le_refl _
    · rw [if_neg hd]
      rcases I.tmp d with ⟨j, y, q1, q2, q3, q4, q5⟩ | ⟨q1, q2⟩
      · refine .inl ⟨j, y, .inl q1, q2, q3, fun j' x' hj' hx' hd' => ?_, R_mono hT.ext (R_under I.fresh q5) q5⟩
        rcases hj' with hj' | hj'
        · exact q4 j' x' hj' hx' hd'
        · rw [same hx' hj'] at hd'; exact absurd hd' hd
      · refine .inr ⟨fun j y hj hy hd' => ?_, R_mono hT.ext (R_under I.fresh q2) q2⟩
        rcases hj with hj | hj
        · exact q1 j y hj hy hd'
        · rw [same hy hj] at hd'; exact hd hd'
  · obtain ⟨h1, h2⟩ := hM k
    by_cases hc : chg hh i k
    · obtain ⟨q1, q2⟩ := h1 hc
      refine .inl ⟨i, .inr rfl, hc, fun j' hj' hc' => ?_, q1⟩
      rcases hj' with hj' | rfl
      · exact q2 j' hj' hc'
      · exact Nat.le_refl _
    · rw [h2 hc]
      rcases I.mem k with ⟨j, q1, q2, q3, q4⟩ | ⟨q1, q2⟩
      · refine .inl ⟨j, .inl q1, q2, fun j' hj' hc' => ?_, q4⟩
        rcases hj' with hj' | rfl
        · exact q3 j' hj' hc'
        · exact absurd hc' hc
      · refine .inr ⟨fun j hj => ?_, q2⟩
        rcases hj with hj | rfl
        · exact q1 j hj
        · exact hc
  · simp only [not_or] at hs
    have hn := I.left i' hi' hs.1
    rw [(hT.unal (base + i') (by omega) (by omega) (objs_none I.wok hn)).2 ver]
    exact hn ver
  · rcases hj with hj | rfl
    · exact I.lt j hj
    · exact hlt
  · exact (I.tr.trans hT (by omega)).weaken (Nat.le_refl _) (fun k hk hh => hh.elim id (fun e => by omega))
  · rcases hj with hj | hj
    · exact .inl (I.effN j y n p v ver off i' hj hy hl hop hp hlt')
    · have e := same hy hj
      subst hj e
      exact .inl (hE n p v ver off i' hl hop hp hlt')
  · rcases hj with hj | hj
    · exact I.callE j y hj hy hk
    · have e := same hy hj
      subst hj e
      exact hC hk

/-- an operation that changes nothing -/
theorem DInv.next0 (D : DCtx P call N base ops ex l tt hh val) {g0 : G} {h0 : H} {w0 : World} {S : Nat → Prop} {m : Mem} {a : Act} {w w' : World} (I : DInv l tt hh val base N g0 h0 w0 S g m a w) {i : Nat} {o : Oper} {x : AOpr}
    (r : Ready ops S i o) (hx : l[i]? = some x) {cv : Value} (hR : R g' (val i) cv) (hW : WOk g' m w') (hF : Fresh g' (· < base + l.length)) (hT : Tr (base + l.length) (· = base + i) g m w g' m w')
    (hh0 : hh (i + 1) = hh i) (hE : ∀ n p v ver off i', Live x (tt i) → x.op = .storeN n p v → p.ev (tt i) = .ptr (base + i') ver off → i' < l.length → S i') :
    DInv l tt hh val base N g0 h0 w0 (fun j => S j ∨ j = i) g' m (a.put o.dst cv) w' := by
  have hnc : ∀ k, ¬ chg hh i k := fun k hc => hc (by rw [hh0])
  exact I.next D r hx hR hW hF hT (fun k => ⟨fun hc => absurd hc (hnc k), fun _ => rfl⟩) hE (fun _ => by rw [hh0]; exact ⟨rfl, rfl, id, fun _ _ => rfl⟩)

end

end Go.Va
/-! Regions whose order is drawn: one operation is done. -/
namespace Go.Va

variable {P : Program} {g g' : G}

section
variable {call : CallF} {N base : Nat} {ops : Array Oper} {ex : List (Nat × Nat)} {l : List AOpr} {tt : Nat → T} {hh : Nat → H} {val : Nat → AV}

/-- where all calls that change memory before i are done -/
theorem DInv.all (D : DCtx P call N base ops ex l tt hh val) {g0 : G} {h0 : H} {w0 : World} {S : Nat → Prop} {m : Mem} {a : Act} {w : World} (I : DInv l tt hh val base N g0 h0 w0 S g m a w) {i : Nat} (hi : i ≤ l.length)
    (hE : ∀ j y, j < i → l[j]? = some y → y.op.kd.isCallE = true → S j) :
    (hh i).cnt = base + l.length ∧ (hh i).ro = (hh 0).ro ∧ Nd (hh i).objs ∧ ∀ k, k < (hh 0).ro → (hh i).objs.get k = (hh 0).objs.get k := by
  by_cases hE' : hasE l
  · induction i with
    | zero => exact ⟨D.cnt, rfl, D.nd, fun _ _ => rfl⟩
    | succ i ih =>
      obtain ⟨q1, q2, q3, q4⟩ := ih (by omega) fun j y hj => hE j y (by omega)
      have hx := at_lt (l := l) (i := i) (by omega)
      rcases D.still hE' hx with hk | hk
      · obtain ⟨p1, p2, p3, p4⟩ := I.callE i _ (hE i _ (Nat.lt_succ_self _) hx hk) hx hk
        exact ⟨p1.trans q1, p2.trans q2, p3 q3, fun k hk' => (p4 k (by rw [q2]; exact hk')).trans (q4 k hk')⟩
      · have hne : (l[i]'(by omega)).op.kd.isCallE = false := by
          cases hq : (l[i]'(by omega)).op.kd <;> rw [hq] at hk <;> simp [Kd.still] at hk <;> rfl
        rw [(D.step hx hne).2 hk]
        exact ⟨q1, q2, q3, q4⟩
  · obtain ⟨h1, h2, h3, _, h5⟩ := D.plain hE' i hi
    exact ⟨h1, h2, h3, h5⟩

theorem DInv.ndro (D : DCtx P call N base ops ex l tt hh val) {g0 : G} {h0 : H} {w0 : World} {S : Nat → Prop} {m : Mem} {a : Act} {w : World} (I : DInv l tt hh val base N g0 h0 w0 S g m a w) {i : Nat} {o : Oper} {x : AOpr}
    (r : Ready ops S i o) (hx : l[i]? = some x) (hk : x.op.kd.isInert = false) :
    (hh i).cnt = base + l.length ∧ (hh i).ro = (hh 0).ro ∧ Nd (hh i).objs ∧ ∀ k, k < (hh 0).ro → (hh i).objs.get k = (hh 0).objs.get k := by
  have hlt := (List.getElem?_eq_some_iff.1 hx).1
  refine I.all D (Nat.le_of_lt hlt) fun j y hj hy hyk => D.before r hj hy hx (clash_eff ?_ hk ?_)
  · cases hq : y.op.kd <;> rw [hq] at hyk <;> simp [Kd.isCallE] at hyk <;> rfl
  · cases h : apartOps ex y.op x.op with
    | false => rfl
    | true =>
      rcases apart_load h with ⟨h1, _⟩ | ⟨h1, _⟩ <;> rw [h1] at hyk <;> simp [Kd.isCallE] at hyk

end

end Go.Va
/-! Regions whose order is drawn: one live operation. -/
namespace Go.Va

variable {P : Program} {g g' : G}

section
variable {call : CallF} {N base : Nat} {ops : Array Oper} {ex : List (Nat × Nat)} {l : List AOpr} {tt : Nat → T} {hh : Nat → H} {val : Nat → AV}

/-- i is done, too -/
def Done (l : List AOpr) (tt : Nat → T) (hh : Nat → H) (val : Nat → AV) (base N : Nat) (g0 : G) (h0 : H) (w0 : World) (S : Nat → Prop) (a : Act) (o : Oper) (i : Nat) (cv : Value) (w' : World) : Prop :=
  ∃ g' m', DInv l tt hh val base N g0 h0 w0 (fun j => S j ∨ j = i) g' m' (a.put o.dst cv) w'

theorem not_storeN {x : AOpr} {base : Nat} {t : T} {S : Nat → Prop} {n0 : Nat} (hk : x.op.kd ≠ .effN) : ∀ n p v ver off i', Live x t → x.op = .storeN n p v → p.ev t = .ptr (base + i') ver off → i' < n0 → S i' := by
  intro n p v ver off i' _ h
  rw [h] at hk
  exact absurd rfl hk

theorem view_sub' {c : Nat} {m m' : Mem} (h : ∀ k, k < c → m k = m' k) : Sub (viewM m' c) m := by
  intro k o hk
  simp only [viewM] at hk
  split at hk
  · rename_i hlt; rw [h k hlt]; exact hk
  · cases hk

/-- below the region's keys memory is as in the text's order, unless the operation is a load -/
theorem DInv.low_of (D : DCtx P call N base ops ex l tt hh val) {g0 : G} {h0 : H} {w0 : World} {S : Nat → Prop} {m : Mem} {a : Act} {w : World} (I : DInv l tt hh val base N g0 h0 w0 S g m a w) {i : Nat} {o : Oper} {x : AOpr}
    (r : Ready ops S i o) (hx : l[i]? = some x) (hk : x.op.kd.isInert = false) (hne : x.op.kd.isEff = false) (hl : ∀ sh p, x.op ≠ .load sh p) : ∀ k, k < base → m k = (hh i).objs.get k := by
  intro k hkb
  refine I.mem_low D r hx hk hkb fun j y hy hc => ?_
  constructor
  · cases h : apartOps ex x.op y.op with
    | false => rfl
    | true =>
      rcases apart_kinds h with ⟨sh, p, n, q, v, h1, _⟩ | ⟨sh, p, n, q, v, _, h2, _⟩
      · exact absurd h1 (hl _ _)
      · rw [h2] at hne; simp [AOp.kd, Kd.isEff] at hne
  · cases h : apartOps ex y.op x.op with
    | false => rfl
    | true =>
      rcases apart_kinds h with ⟨sh, p, n, q, v, _, h2, _⟩ | ⟨sh, p, n, q, v, h1, _⟩
      · rw [h2] at hne; simp [AOp.kd, Kd.isEff] at hne
      · exact absurd h1 (hl _ _)

end

end Go.Va
/-! Regions whose order is drawn: one live operation, by kind. -/
namespace Go.Va

variable {P : Program} {g g' : G}

section
variable {call : CallF} {N base : Nat} {ops : Array Oper} {ex : List (Nat × Nat)} {l : List AOpr} {tt : Nat → T} {hh : Nat → H} {val : Nat → AV}

theorem DInv.exec_inert (D : DCtx P call N base ops ex l tt hh val) {g0 : G} {h0 : H} {w0 : World} {S : Nat → Prop} {m : Mem} {a : Act} {w : World} (I : DInv l tt hh val base N g0 h0 w0 S g m a w) {i : Nat} {o : Oper} {x : AOpr}
    (r : Ready ops S i o) (hx : l[i]? = some x) (hk : x.op.kd = .inert) (hag : agOp P o.op x.op = true) (ht : TOn g (tt i) a.tmps x.op.uses)
    (hst : stepV call true base i (tt i) (hh i) x.op = some (val i, hh (i + 1))) : StepTo P o a w (Done l tt hh val base N g0 h0 w0 S a o i) := by
  unfold stepV at hst
  rw [hk] at hst
  simp only at hst
  split at hst
  · rename_i v hv
    simp only [Option.some.injEq, Prod.mk.injEq] at hst
    obtain ⟨rfl, h2⟩ := hst
    obtain ⟨cv, h3, h4⟩ := inert_ok (P := P) hag ht I.wok.fixed hv
    exact StepTo.value h3 (.inl rfl) ⟨g, m, I.next0 D r hx h4 I.wok I.fresh (Tr.refl _ _ _ _ _) h2.symm (not_storeN (by rw [hk]; simp))⟩
  · cases hst

theorem DInv.exec_call (hc : CallOk P call) (D : DCtx P call N base ops ex l tt hh val) {g0 : G} {h0 : H} {w0 : World} {S : Nat → Prop} {m : Mem} {a : Act} {w : World} (I : DInv l tt hh val base N g0 h0 w0 S g m a w) {i : Nat} {o : Oper} {x : AOpr}
    (r : Ready ops S i o) (hx : l[i]? = some x) (hk : x.op.kd = .call) (hag : agOp P o.op x.op = true) (ht : TOn g (tt i) a.tmps x.op.uses)
    (hst : stepV call true base i (tt i) (hh i) x.op = some (val i, hh (i + 1))) : StepTo P o a w (Done l tt hh val base N g0 h0 w0 S a o i) := by
  obtain ⟨n1, n2, n3, n4⟩ := I.ndro D r hx (by rw [hk]; rfl)
  have hlow := I.low_of D r hx (by rw [hk]; rfl) (by rw [hk]; rfl) (fun sh p h => by rw [h] at hk; simp [AOp.kd] at hk)
  unfold stepV at hst
  rw [hk] at hst
  simp only [if_true] at hst
  split at hst
  · rename_i v h' hcall
    split at hst
    · rename_i hcond
      simp only [Bool.and_eq_true, Nat.beq_eq] at hcond
      simp only [Option.some.injEq, Prod.mk.injEq] at hst
      obtain ⟨rfl, h2⟩ := hst
      have hsub : Sub ((hh i).objs.view base).get m := by rw [n3.view]; exact view_sub' hlow
      have hne : ∀ n p v ver off i', Live x (tt i) → x.op = .storeN n p v → p.ev (tt i) = .ptr (base + i') ver off → i' < l.length → S i' := not_storeN (by rw [hk]; simp)
      generalize hop : x.op = op at *
      cases op <;> simp only [callV, reduceCtorEq] at hcall
      rename_i md eff f args
      have hs := callOp_ok (h := { objs := (hh i).objs.view base, cnt := (hh i).cnt, ro := (hh i).cnt }) hc hag ht (by simpa only [callV] using hcall) (I.wok.sub hsub) (n3.sublist (Objs.view_sub _ _)) (by show Fresh g (· < (hh i).cnt); rw [n1]; exact I.fresh) (Nat.le_refl _)
      refine hs.mono fun cv w' hr => ?_
      obtain ⟨g', p1, p2, p3, p4, p5⟩ := hr
      have p4' : Fresh g' (· < base + l.length) := by have := hcond.1; rw [← n1, ← this]; exact p4
      have hget : h'.objs.get = ((hh i).objs.view base).get := by
        funext k
        by_cases hkc : k < (hh i).cnt
        · exact p5.low k hkc
        · have e1 : h'.objs.get k = none := objs_lt p2 p4' (by rw [← n1]; exact hkc)
          have e2 : ((hh i).objs.view base).get k = none := by
            rw [n3.view]; simp only [viewM]; rw [if_neg (by omega)]
          rw [e1, e2]
      have p2' : WOk g' ((hh i).objs.view base).get w' := by rw [← hget]; exact p2
      have tr : Tr (hh i).cnt (fun _ => False) g ((hh i).objs.view base).get w g' ((hh i).objs.view base).get w' := by
        have := p5.tr; rw [hget] at this; exact this
      rw [n1] at tr
      obtain ⟨q1, q2⟩ := I.wok.frame hsub I.fresh (fun _ _ h => h) p2' tr
      exact ⟨g', m, I.next0 D r hx p1 q1 p4' (q2.weaken (Nat.le_refl _) (fun _ _ h => h.elim)) h2.symm (by rw [hop]; exact hne)⟩
    · cases hst
  · cases hst

end

end Go.Va
/-! Regions whose order is drawn: one live operation, by kind (objects made, changed). -/
namespace Go.Va

variable {P : Program} {g g' : G}

section
variable {call : CallF} {N base : Nat} {ops : Array Oper} {ex : List (Nat × Nat)} {l : List AOpr} {tt : Nat → T} {hh : Nat → H} {val : Nat → AV}

/-- there is no call that changes memory where there is an operation that does -/
theorem DCtx.noE (D : DCtx P call N base ops ex l tt hh val) {i : Nat} {x : AOpr} (hx : l[i]? = some x) (h1 : x.op.kd.isCallE = false) (h2 : x.op.kd.still = false) : ¬ hasE l := fun h => by
  rcases D.still h hx with h3 | h3
  · rw [h1] at h3; cases h3
  · rw [h2] at h3; cases h3

theorem DInv.exec_alloc (D : DCtx P call N base ops ex l tt hh val) {g0 : G} {h0 : H} {w0 : World} {S : Nat → Prop} {m : Mem} {a : Act} {w : World} (I : DInv l tt hh val base N g0 h0 w0 S g m a w) {i : Nat} {o : Oper} {x : AOpr}
    (r : Ready ops S i o) (hx : l[i]? = some x) (hk : x.op.kd = .alloc) (hag : agOp P o.op x.op = true) (ht : TOn g (tt i) a.tmps x.op.uses)
    (hst : stepV call true base i (tt i) (hh i) x.op = some (val i, hh (i + 1))) : StepTo P o a w (Done l tt hh val base N g0 h0 w0 S a o i) := by
  have hlt := (List.getElem?_eq_some_iff.1 hx).1
  obtain ⟨n1, n2, n3, n4⟩ := I.ndro D r hx (by rw [hk]; rfl)
  have hlow := I.low_of D r hx (by rw [hk]; rfl) (by rw [hk]; rfl) (fun sh p h => by rw [h] at hk; simp [AOp.kd] at hk)
  have hnE := D.noE hx (by rw [hk]; rfl) (by rw [hk]; rfl)
  have hnew := (D.plain hnE i (Nat.le_of_lt hlt)).2.2.2.1 i (Nat.le_refl _) hlt
  have hun := I.left i hlt r.no
  have hos : ∀ k ob, ((hh i).objs.view base).get k = some ob → m k = some ob := by rw [n3.view]; exact view_sub' hlow
  have hne : ∀ n p v ver off i', Live x (tt i) → x.op = .storeN n p v → p.ev (tt i) = .ptr (base + i') ver off → i' < l.length → S i' := not_storeN (by rw [hk]; simp)
  unfold stepV at hst
  rw [hk] at hst
  simp only [if_true] at hst
  split at hst
  · rename_i v ob hv
    simp only [Option.some.injEq, Prod.mk.injEq] at hst
    obtain ⟨rfl, h2⟩ := hst
    obtain ⟨cv, w', g', p1, p2, p3, p4, p5⟩ := alloc_ok (P := P) hag ht I.wok hos hun hv
    have hget : (hh (i + 1)).objs.get = upd (hh i).objs.get (base + i) ob := by rw [← h2]; exact Objs.get_cons _ _ _
    refine StepTo.value p1 (.inl rfl) ⟨g', updo m (base + i) (some ob), I.next D r hx p2 p3 (fresh_tr I.wok I.fresh (by omega) p5) (p5 _) (fun k => ⟨fun hc => ?_, fun hc => ?_⟩) hne (fun h => by rw [hk] at h; simp [Kd.isCallE] at h)⟩
    · have hkk : k = base + i := by
        refine Decidable.byContradiction fun hn => hc ?_
        rw [hget, upd_other _ _ hn]
      subst hkk
      refine ⟨by rw [hget]; simp [updo, upd], fun j hj hcj => Nat.le_of_not_lt fun hgt => ?_⟩
      have hy := at_lt (I.lt j hj)
      rcases D.chg_kind hy hcj with h | ⟨_, h⟩ | ⟨n, p, vv, ver, off, q1, q2, q3, q4⟩
      · refine D.after r hgt hx hy (clash_eff' h (by rw [hk]; rfl) ?_) hj
        cases hap : apartOps ex x.op (l[j]'(I.lt j hj)).op with
        | false => rfl
        | true => rcases apart_load hap with ⟨h1, _⟩ | ⟨h1, _⟩ <;> rw [hk] at h1 <;> cases h1
      · omega
      · exact r.no (I.effN j _ n p vv ver off i hj hy q1 q2 q3 hlt)
    · have hkk : k ≠ base + i := by
        rintro rfl
        refine hc fun he => ?_
        rw [hget, upd_same, hnew] at he
        cases he
      simp [updo, upd, hkk]
  · rename_i v hv
    simp only [Option.some.injEq, Prod.mk.injEq] at hst
    obtain ⟨rfl, h2⟩ := hst
    obtain ⟨cv, w', g', p1, p2, p3, p4, p5⟩ := alloc_ok (P := P) hag ht I.wok hos hun hv
    exact StepTo.value p1 (.inl rfl) ⟨g', m, I.next0 D r hx p2 p3 (fresh_tr I.wok I.fresh (by omega) p5) (p5 _) h2.symm hne⟩
  · cases hst

end

end Go.Va
/-! Regions whose order is drawn: one live operation, by kind (writing). -/
namespace Go.Va

variable {P : Program} {g g' : G}

section
variable {call : CallF} {N base : Nat} {ops : Array Oper} {ex : List (Nat × Nat)} {l : List AOpr} {tt : Nat → T} {hh : Nat → H} {val : Nat → AV}

theorem updO_eq {m : Mem} {d : Option (Nat × Obj)} {m1 : Mem} (h : ∀ k, m k = m1 k) : updO m d = updO m1 d := by
  have : m = m1 := funext h
  rw [this]

theorem DInv.exec_eff (D : DCtx P call N base ops ex l tt hh val) {g0 : G} {h0 : H} {w0 : World} {S : Nat → Prop} {m : Mem} {a : Act} {w : World} (I : DInv l tt hh val base N g0 h0 w0 S g m a w) {i : Nat} {o : Oper} {x : AOpr}
    (r : Ready ops S i o) (hx : l[i]? = some x) (hk : x.op.kd = .eff) (hag : agOp P o.op x.op = true) (ht : TOn g (tt i) a.tmps x.op.uses)
    (hst : stepV call true base i (tt i) (hh i) x.op = some (val i, hh (i + 1))) : StepTo P o a w (Done l tt hh val base N g0 h0 w0 S a o i) := by
  have hlt := (List.getElem?_eq_some_iff.1 hx).1
  obtain ⟨hm, haft⟩ := I.mem_eff D r hx (by rw [hk]; rfl)
  have hun := I.left i hlt r.no
  have hne : ∀ n p v ver off i', Live x (tt i) → x.op = .storeN n p v → p.ev (tt i) = .ptr (base + i') ver off → i' < l.length → S i' := not_storeN (by rw [hk]; simp)
  unfold stepV at hst
  rw [hk] at hst
  simp only at hst
  obtain ⟨d, ⟨nx, cv, w', g', p1, p2, p3, p4, p5, p6⟩, h2, h3, h4, h5⟩ := eff_ok (P := P) hag ht I.wok (fun k ob h => by rw [hm k]; exact h) hun hst
  have hmm : updO m d = (hh (i + 1)).objs.get := by rw [h2]; exact updO_eq hm
  refine StepTo.value p1 p2 ⟨g', updO m d, I.next D r hx p3 p4 (fresh_tr I.wok I.fresh (by omega) p6) (p6 _) (fun k => ⟨fun hc => ⟨by rw [hmm], fun j hj hcj => Nat.le_of_not_lt fun hgt => haft j k hgt hj hcj⟩, fun hc => ?_⟩) hne (fun h => by rw [hk] at h; simp [Kd.isCallE] at h)⟩
  unfold chg at hc
  rw [hmm, Classical.not_not.1 hc, hm k]

theorem DInv.exec_callE (hc : CallOk P call) (D : DCtx P call N base ops ex l tt hh val) {g0 : G} {h0 : H} {w0 : World} {S : Nat → Prop} {m : Mem} {a : Act} {w : World} (I : DInv l tt hh val base N g0 h0 w0 S g m a w) {i : Nat} {o : Oper} {x : AOpr}
    (r : Ready ops S i o) (hx : l[i]? = some x) (hk : x.op.kd = .callE) (hag : agOp P o.op x.op = true) (ht : TOn g (tt i) a.tmps x.op.uses)
    (hst : stepV call true base i (tt i) (hh i) x.op = some (val i, hh (i + 1))) : StepTo P o a w (Done l tt hh val base N g0 h0 w0 S a o i) := by
  obtain ⟨n1, n2, n3, n4⟩ := I.ndro D r hx (by rw [hk]; rfl)
  obtain ⟨hm, haft⟩ := I.mem_eff D r hx (by rw [hk]; rfl)
  have hmm : m = (hh i).objs.get := funext hm
  have hne : ∀ n p v ver off i', Live x (tt i) → x.op = .storeN n p v → p.ev (tt i) = .ptr (base + i') ver off → i' < l.length → S i' := not_storeN (by rw [hk]; simp)
  unfold stepV at hst
  rw [hk] at hst
  simp only [if_true] at hst
  split at hst
  · rename_i v h' hcall
    split at hst
    · rename_i hcond
      rw [Nat.beq_eq] at hcond
      simp only [Option.some.injEq, Prod.mk.injEq] at hst
      obtain ⟨rfl, h2⟩ := hst
      generalize hop : x.op = op at *
      cases op <;> simp only [callV, reduceCtorEq] at hcall
      rename_i md eff f args
      have hs := callOp_ok (h := hh i) hc hag ht (by simpa only [callV] using hcall) (by rw [← hmm]; exact I.wok) n3 (by rw [n1]; exact I.fresh) (by rw [n2, n1]; have := D.ro; omega)
      refine hs.mono fun cv w' hr => ?_
      obtain ⟨g', p1, p2, p3, p4, p5⟩ := hr
      subst h2
      have tr := p5.tr
      rw [n1, ← hmm] at tr
      refine ⟨g', (hh (i + 1)).objs.get, I.next D r hx p1 p2 (by have h := p4; rw [hcond, n1] at h; exact h) (tr.weaken (Nat.le_refl _) (fun _ _ h => h.elim)) (fun k => ⟨fun hc => ⟨rfl, fun j hj hcj => Nat.le_of_not_lt fun hgt => haft j k hgt hj hcj⟩, fun hc => ?_⟩)
        (by rw [hop]; exact hne) (fun _ => ⟨hcond, p5.ro, fun _ => p3, p5.low⟩)⟩
      unfold chg at hc
      rw [Classical.not_not.1 hc, hm k]
    · cases hst
  · cases hst

end

end Go.Va
