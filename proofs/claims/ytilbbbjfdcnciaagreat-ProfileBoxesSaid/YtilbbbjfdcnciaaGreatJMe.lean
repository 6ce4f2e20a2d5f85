/-
  Texts joined by program: What a function gives back. Calls: what is asked of a callee; what it means for the caller. Lending: rows of the caller's memory as they are, while a callee runs that cannot write there. Calls: a callee in the caller's memory, beside it, or with its rows lent. Calls with rows lent; all calls. All calls. Regions whose order is given. One operation of a region whose order is given. A region whose order is given.
-/
import Derived.Test.YtilbbbjfdcnciaaGreatJMd
import Derived.Laws.Sem
import Derived.Laws.Externs
/-! What a function gives back. -/
namespace Go.Va

variable {P : Program} {g g' : G}

def resOne (tmps : Array Value) : ResultVar → Sem Value
  | .tmp t => pure (tmps.getD t undef)
  | .cell a t => do loadVar t (← asAddr (tmps.getD a undef))

theorem run_res {t : T} {tmps : Array Value} {w : World} {os : Objs} (ht : TOk g t.get tmps) (hw : WOk g os.get w) : ∀ {rs : List ResultVar} {res : List ResV} {l : List AV}, agRes P rs res = true → resultsV t os res = some l →
    ∃ vs : List Value, (rs.mapM (resOne tmps)).run P w = .ok vs w ∧ RL g l vs
  | [], [], l, _, h => by
    simp only [resultsV, Option.some.injEq] at h; subst h
    exact ⟨[], by simp, rfl⟩
  | [], _ :: _, _, h, _ => by simp [agRes] at h
  | .tmp _ :: _, [], _, h, _ => by simp [agRes] at h
  | .cell _ _ :: _, [], _, h, _ => by simp [agRes] at h
  | .tmp n :: rs, .t m :: res, l, hag, h => by
    simp only [agRes, Bool.and_eq_true, Nat.beq_eq] at hag
    obtain ⟨rfl, hag⟩ := hag
    simp only [resultsV] at h
    split at h
    · rename_i l' hl
      simp only [Option.some.injEq] at h; subst h
      obtain ⟨vs, h1, h2⟩ := run_res ht hw hag hl
      refine ⟨tmps.getD n undef :: vs, ?_, ?_⟩
      · simp only [List.mapM_cons, resOne, Sem.run_bind, Sem.run_pure, Result.andThen_ok, h1]
      · simp only [RL]; exact ⟨_, _, rfl, ht n, h2⟩
    · cases h
  | .tmp _ :: _, .cell _ _ :: _, _, h, _ => by simp [agRes] at h
  | .cell _ _ :: _, .t _ :: _, _, h, _ => by simp [agRes] at h
  | .cell n ty :: rs, .cell m sh :: res, l, hag, h => by
    simp only [agRes, Bool.and_eq_true, Nat.beq_eq] at hag
    obtain ⟨⟨rfl, hsh⟩, hag⟩ := hag
    simp only [resultsV] at h
    split at h
    · rename_i v hv
      split at h
      · rename_i l' hl
        simp only [Option.some.injEq] at h; subst h
        obtain ⟨vs, h1, h2⟩ := run_res ht hw hag hl
        have hp := ht n
        generalize t.get n = pv at *
        cases pv <;> simp only [loadV, reduceCtorEq] at hv
        rename_i k ver off
        split at hv
        · rename_i ver' var cs hget
          split at hv
          · rename_i hver
            rw [Nat.beq_eq] at hver; subst hver
            simp only [R] at hp
            obtain ⟨b, s, hi, hpv⟩ := hp
            have hrow := hw.row hget hi
            obtain ⟨cv, h3, h4⟩ := run_loadRow (P := P) hsh hrow hv
            refine ⟨cv :: vs, ?_, ?_⟩
            · simp only [List.mapM_cons, resOne, Sem.run_bind, Sem.run_pure, Result.andThen_ok, h1, hpv, asAddr, h3]
            · simp only [RL]; exact ⟨_, _, rfl, h4, h2⟩
          · cases hv
        · cases hv
      · cases h
    · cases h

theorem run_results {fn : Func} {res : List ResV} {t : T} {tmps : Array Value} {w : World} {os : Objs} {l : List AV} (hag : agRes P fn.results.toList res = true) (ht : TOk g t.get tmps) (hw : WOk g os.get w)
    (h : resultsV t os res = some l) : ∃ cv, (results fn tmps).run P w = .ok cv w ∧ R g (pack l) cv := by
  obtain ⟨vs, h1, h2⟩ := run_res (P := P) ht hw hag h
  have hl := RL_len h2
  have hrun : (results fn tmps).run P w = .ok (if h : vs.toArray.size = 1 then vs.toArray[0] else .tuple vs.toArray) w := by
    have e : results fn tmps = (do let vs ← fn.results.mapM (resOne tmps); pure (if h : vs.size = 1 then vs[0] else .tuple vs)) := by
      unfold results
      congr 1
    rw [e, Array.mapM_eq_mapM_toList]
    simp only [bind_map_left, Sem.run_bind, h1, Result.andThen_ok]
    rfl
  refine ⟨_, hrun, ?_⟩
  match l, vs, h2, hl with
  | [], [], h2, _ => simp only [List.size_toArray]; simp only [pack]; simp [R, RL]
  | [a], [v], h2, _ =>
    simp only [RL] at h2
    obtain ⟨_, _, h3, h4, _⟩ := h2
    simp only [List.cons.injEq] at h3
    obtain ⟨rfl, _⟩ := h3
    simpa [pack] using h4
  | a :: b :: l, v :: u :: vs, h2, _ =>
    simp only [pack, R]
    exact ⟨_, by simp, h2⟩

end Go.Va
/-! Calls: what is asked of a callee; what it means for the caller. -/
namespace Go.Va

variable {P : Program} {g g' : G}

/-- the operation answers; where it leads, the post holds -/
def StepTo (P : Program) (o : Oper) (a : Act) (w : World) (post : Value → World → Prop) : Prop :=
  ∀ (K : Act → World → Prop) (Q : Exit → Act → World → Prop), (∀ cv w', post cv w' → K (a.put o.dst cv) w') → o.wp P a w K Q

theorem StepTo.value {o : Oper} {a : Act} {w w' : World} {post : Value → World → Prop} {nx : Next} {cv : Value} (h : (execOp a.eval o).run P w = .ok nx w') (hn : nx = .value cv ∨ (nx = .skip ∧ cv = undef)) (hp : post cv w') : StepTo P o a w post := by
  intro K Q hK
  unfold Oper.wp
  rw [h]
  rcases hn with rfl | ⟨rfl, rfl⟩
  · exact hK _ _ hp
  · exact hK _ _ hp

theorem StepTo.mono {o : Oper} {a : Act} {w : World} {post post' : Value → World → Prop} (h : StepTo P o a w post) (hp : ∀ cv w', post cv w' → post' cv w') : StepTo P o a w post' :=
  fun K Q hK => h K Q fun cv w' x => hK cv w' (hp cv w' x)

/-- a function answers: at once (code of the toolchain), or by its body -/
def CallsF (P : Program) (f : FuncId) (args : Array Value) (w : World) (post : Value → World → Prop) : Prop :=
  (∃ v w', (callFunc f args).run P w = .ok (.value v) w' ∧ post v w') ∨
  ((callFunc f args).run P w = .ok (.enter f args) w ∧ Calls P f args w fun e w' => ∃ v, e = .returned v ∧ post v w')

/-- what a call leaves -/
def Ret (g : G) (h : H) (w : World) (v : AV) (h' : H) (cv : Value) (w' : World) : Prop :=
  ∃ g', R g' v cv ∧ WOk g' h'.objs.get w' ∧ Nd h'.objs ∧ Fresh g' (· < h'.cnt) ∧ Left g h w g' h' w'

def CallOk (P : Program) (call : CallF) : Prop := ∀ (md : Md) (f : FuncId) (args : List AV) (h : H) (v : AV) (h' : H), call md f args h = some (v, h') →
  ∀ (g : G) (w : World) (cargs : List Value), WOk g h.objs.get w → Nd h.objs → Fresh g (· < h.cnt) → h.ro ≤ h.cnt → RL g args cargs → CallsF P f cargs.toArray w (Ret g h w v h')

theorem evs_RL {t : T} {a : Act} : ∀ {xs : List Operand} {ys : List Opd}, agOpds xs ys = true → TOn g t a.tmps (uses ys) → RL g (evs t ys) (xs.map a.eval)
  | [], [], _, _ => rfl
  | [], _ :: _, h, _ => by simp [agOpds] at h
  | _ :: _, [], h, _ => by simp [agOpds] at h
  | x :: xs, y :: ys, h, ht => by
    simp only [agOpds, Bool.and_eq_true] at h
    simp only [evs, List.map_cons, RL]
    refine ⟨_, _, rfl, agOpd_R h.1 (ht.sub fun n hn => ?_), evs_RL h.2 (ht.sub fun n hn => ?_)⟩
    · simp only [uses, List.flatMap_cons, List.mem_append]; exact .inl hn
    · simp only [uses, List.flatMap_cons, List.mem_append]; exact .inr hn

theorem callOp_ok {o : Oper} {t : T} {a : Act} {w : World} {call : CallF} (hc : CallOk P call) {md : Md} {eff : Bool} {f : Opd} {args : List Opd} {h h' : H} {v : AV} (hag : agOp P o.op (.call md eff f args) = true)
    (ht : TOn g t a.tmps (f.use ++ uses args)) (hv : callV call t h (.call md eff f args) = some (v, h')) (hw : WOk g h.objs.get w) (hnd : Nd h.objs) (hf : Fresh g (· < h.cnt)) (hro : h.ro ≤ h.cnt) :
    StepTo P o a w (Ret g h w v h') := by
  obtain ⟨dst, op, ty, pos, after, guard⟩ := o
  simp only [agOp] at hag
  split at hag
  · rename_i c
    split at hag
    · rename_i f' hcal
      simp only [Bool.and_eq_true] at hag
      obtain ⟨hfa, haa⟩ := hag
      have hfr := agOpd_R hfa (ht.sub fun n hn => by simp only [List.mem_append]; exact .inl hn)
      have har := evs_RL (g := g) haa (ht.sub fun n hn => by simp only [List.mem_append]; exact .inr hn)
      simp only [callV] at hv
      split at hv
      · rename_i id first cap hfe
        rw [hfe] at hfr
        simp only [R] at hfr
        obtain ⟨x, y, hfv, hx, hy⟩ := hfr
        have hal : RL g (first ++ evs t args ++ cap) (x ++ c.args.toList.map a.eval ++ y) := RL_append (RL_append hx har) hy
        have key := hc md id _ h v h' hv g w _ hw hnd hf hro hal
        have hargs : (x ++ c.args.toList.map a.eval ++ y).toArray = x.toArray ++ c.args.map a.eval ++ y.toArray := by
          apply Array.ext'; simp
        have hex : (execOp a.eval { dst, op := .call c, type := ty, pos, after, guard }).run P w = (callFunc id (x ++ c.args.toList.map a.eval ++ y).toArray).run P w := by
          rw [hargs]
          simp only [execOp, resolve, hcal, hfv, Deferred.ofValue, Sem.run_bind, Sem.run_pure, Result.andThen_ok, invoke]
        intro K Q hK
        unfold Oper.wp
        rw [hex]
        rcases key with ⟨v', w', h1, h2⟩ | ⟨h1, h2⟩
        · rw [h1]; exact hK _ _ h2
        · rw [h1]
          rw [Oper.upon_enter]
          refine Calls.mono h2 fun e w' he => ?_
          obtain ⟨v', rfl, hp⟩ := he
          exact hK _ _ hp
      · cases hv
    · cases hag
  · cases hag

/-- THE CALLEE SAW A PART OF MEMORY AND LEFT IT AS IT WAS -/
theorem WOk.frame {m m1 : Mem} {w w' : World} {c : Nat} {N : Nat → Prop} (hw : WOk g m w) (hs : Sub m1 m) (hf : Fresh g (· < c)) (hN : ∀ k, k < c → ¬ N k) (h1 : WOk g' m1 w') (ht : Tr c N g m1 w g' m1 w') :
    WOk g' m w' ∧ Tr c N g m w g' m w' := by
  have hlt : ∀ k o, m k = some o → k < c := fun k o hm => by
    obtain ⟨p, hp⟩ := (hw.objs k o hm).placed
    exact Decidable.byContradiction fun hn => by rw [hf k _ hn] at hp; cases hp
  have hinj : ∀ k o, m k = some o → g'.inj k o.ver = g.inj k o.ver := fun k o hm => by
    obtain ⟨p, hp⟩ := (hw.objs k o hm).placed
    rw [hp]; exact ht.ext.inj k _ p (hlt k o hm) hp
  have howns : ∀ k b, Owns g' m k b ↔ Owns g m k b := fun k b => by
    constructor
    · rintro ⟨o, s, q1, q2⟩; exact ⟨o, s, q1, by rw [← hinj k o q1]; exact q2⟩
    · rintro ⟨o, s, q1, q2⟩; exact ⟨o, s, q1, by rw [hinj k o q1]; exact q2⟩
  have howns1 : ∀ k b, Owns g' m1 k b → Owns g m1 k b := fun k b => by
    rintro ⟨o, s, q1, q2⟩; exact ⟨o, s, q1, by rw [← hinj k o (hs k o q1)]; exact q2⟩
  have other : ∀ k o b s, m k = some o → m1 k = none → g.inj k o.ver = some (.at b s) → w'.heap[b]? = w.heap[b]? ∧ (∀ q, g'.imm b q = g.imm b q) ∧ g'.immM b = g.immM b := by
    intro k o b s hm hn hi
    refine ht.keep b ((hw.objs k o hm).lt hi) fun k' ho => ?_
    have hk := hw.sep k' k b (hs.owns ho) ⟨o, s, hm, hi⟩
    subst hk
    obtain ⟨o', _, q, _⟩ := ho
    rw [hn] at q; cases q
  refine ⟨⟨h1.immc, h1.immm, fun k o hm => ?_, fun k k' b q1 q2 => hw.sep k k' b ((howns k b).1 q1) ((howns k' b).1 q2), fun k b ho => ?_, fun k o hm v hv => ?_⟩, ⟨ht.ext, fun k hk _ hm => ?_, ht.size, fun b hb hn => ht.keep b hb fun k ho => hn k (hs.owns ho), fun k b ho => .inl ⟨k, (howns k b).1 ho⟩, ht.os, ht.output, ht.tape, ht.frz⟩⟩
  · cases hm1 : m1 k with
    | some o' =>
      have := hs k o' hm1
      rw [hm] at this
      simp only [Option.some.injEq] at this; subst this
      exact h1.objs k o hm1
    | none =>
      have ho := hw.objs k o hm
      cases o with
      | arr ver var cs =>
        rcases ho with ⟨q1, q2⟩ | ⟨b, s, q1, C, el, q2, q3, q4, q5⟩
        · exact .inl ⟨ht.ext.inj _ _ _ (hlt k _ hm) q1, q2⟩
        · refine .inr ⟨b, s, ht.ext.inj _ _ _ (hlt k _ hm) q1, C, el, by rw [(other k _ b s hm hm1 q1).1]; exact q2, q3, q4, fun j x hx => ?_⟩
          obtain ⟨v, x1, x2, x3⟩ := q5 j x hx
          exact ⟨v, x1, R_mono ht.ext (R_under hf x2) x2, x3⟩
      | map ks vs =>
        obtain ⟨b, s, es, q1, q2, q3⟩ := ho
        refine ⟨b, s, es, ht.ext.inj _ _ _ (hlt k _ hm) q1, by rw [(other k _ b s hm hm1 q1).1]; exact q2, q3.1, q3.2.1, fun i e he => ?_⟩
        obtain ⟨x1, ⟨kk, kn, kc, x2, x3, x4⟩, v, x5, x6, x7⟩ := q3.2.2 i e he
        exact ⟨x1, ⟨kk, kn, kc, x2, R_mono ht.ext (R_under hf x3) x3, x4⟩, v, x5, R_mono ht.ext (R_under hf x6) x6, x7⟩
  · have ho' := (howns k b).1 ho
    obtain ⟨o, s, q1, q2⟩ := ho'
    cases hm1 : m1 k with
    | some o' =>
      have := hs k o' hm1
      rw [q1] at this
      simp only [Option.some.injEq] at this; subst this
      exact h1.own k b ⟨o, s, hm1, by rw [hinj k o q1]; exact q2⟩
    | none =>
      obtain ⟨_, p2, p3⟩ := other k o b s q1 hm1 q2
      obtain ⟨p4, p5⟩ := hw.own k b ⟨o, s, q1, q2⟩
      exact ⟨fun q => (p2 q).trans (p4 q), p3.trans p5⟩
  · cases hm1 : m1 k with
    | some o' =>
      have := hs k o' hm1
      rw [hm] at this
      simp only [Option.some.injEq] at this; subst this
      exact h1.vers k o hm1 v hv
    | none =>
      rw [(ht.unal k (hlt k o hm) (hN k (hlt k o hm)) hm1).2 v]
      exact hw.vers k o hm v hv
  · exact ⟨hm, (ht.unal k hk (hN k hk) (hs.none hm)).2⟩

/-- THE CALLEE RAN BESIDE THE CALLER'S MEMORY -/
theorem WOk.after {m : Mem} {w w' : World} (hw : WOk g m w) (hheap : ∀ b, b < w.heap.size → w'.heap[b]? = w.heap[b]?) (hsz : w.heap.size ≤ w'.heap.size) (hb : Beside w w') (hf : Full g g') (hinj : g'.inj = g.inj)
    (hi : ∀ b, b < w.heap.size → (∀ o, g'.imm b o = g.imm b o) ∧ g'.immM b = g.immM b)
    (hn : ∀ b o a, w.heap.size ≤ b → g'.imm b o = some a → ∃ v, w'.cell? ⟨b, o, none⟩ = some v ∧ R g' a v ∧ a.scalar = true ∧ a.isData)
    (hnM : ∀ b ks vs, w.heap.size ≤ b → g'.immM b = some (ks, vs) → (∀ o, g'.imm b o = none) ∧ (AV.datas ks = some ks ∧ AV.datas vs = some vs) ∧ ∃ es, w'.heap[b]? = some (.map es es.size) ∧ Entries g' es ks vs) :
    WOk g' m w' ∧ ∀ c N, Tr c N g m w g' m w' := by
  have howns : ∀ k b, Owns g' m k b ↔ Owns g m k b := fun k b => by unfold Owns; rw [hinj]
  refine ⟨⟨fun b o a ha => ?_, fun b ks vs ha => ?_, fun k o hm => (hw.objs k o hm).mono hf (fun b s hi' => hheap b ((hw.objs k o hm).lt hi')), fun k k' b q1 q2 => hw.sep k k' b ((howns k b).1 q1) ((howns k' b).1 q2), fun k b ho => ?_, fun k o hm v hv => by rw [hinj]; exact hw.vers k o hm v hv⟩,
    fun c N => ⟨hf.ext c, fun k _ _ hm => ⟨hm, fun ver => by rw [hinj]⟩, hsz, fun b hb' _ => ⟨hheap b hb', (hi b hb').1, (hi b hb').2⟩, fun k b ho => .inl ⟨k, (howns k b).1 ho⟩, hb.os, hb.output, hb.tape, hb.frz⟩⟩
  · rcases Nat.lt_or_ge b w.heap.size with h | h
    · rw [(hi b h).1 o] at ha
      obtain ⟨v, h1, h2, h3⟩ := hw.immc b o a ha
      exact ⟨v, by rw [cell_of_heap (hheap b h)]; exact h1, hf.R h2, h3⟩
    · exact hn b o a h ha
  · rcases Nat.lt_or_ge b w.heap.size with h | h
    · rw [(hi b h).2] at ha
      obtain ⟨h0, h1, es, h2, h3⟩ := hw.immm b ks vs ha
      exact ⟨fun o => by rw [(hi b h).1 o]; exact h0 o, h1, es, by rw [hheap b h]; exact h2, h3.mono hf⟩
    · exact hnM b ks vs h ha
  · have ho' := (howns k b).1 ho
    obtain ⟨o, s, h1, h2⟩ := ho'
    have hlt := (hw.objs k o h1).lt h2
    obtain ⟨p1, p2⟩ := hw.own k b ⟨o, s, h1, h2⟩
    exact ⟨fun q => by rw [(hi b hlt).1 q]; exact p1 q, by rw [(hi b hlt).2]; exact p2⟩

end Go.Va
/-! Lending: rows of the caller's memory as they are, while a callee runs that cannot write there. -/
namespace Go.Va

variable {P : Program} {g g' : G}

theorem lendMany_mono {f f' : AV → Option AV} (h : ∀ v d, f v = some d → f' v = some d) : ∀ {vs ds : List AV}, lendMany f vs = some ds → lendMany f' vs = some ds
  | [], ds, hd => hd
  | v :: vs, ds, hd => by
    simp only [lendMany] at hd ⊢
    split at hd
    · rename_i d h1
      split at hd
      · rename_i ds' h2
        rw [h v d h1, lendMany_mono h h2]; exact hd
      · cases hd
    · cases hd

/-- one level of lending -/
def lendW (os : Objs) (f : AV → Option AV) (v : AV) : Option AV :=
  match v with
  | .slR k ver off len w ag => match os.get k with
    | some (.arr ver' _ cs) => if Nat.beq ver ver' && Nat.ble (off + len * w) cs.length then
        (match lendMany f ((cs.drop off).take (len * w)) with
         | some ds => (match elemsOf (if ag then .many w else .one) len ds with | some xs => some (.slT false xs) | none => none)
         | none => none) else none
    | _ => none
  | .agg cs => match lendMany f cs with | some ds => some (.agg ds) | none => none
  | .tup cs => match lendMany f cs with | some ds => some (.tup ds) | none => none
  | v => v.data

theorem lendV_eq (os : Objs) (n : Nat) (v : AV) : lendV os (n + 1) v = lendW os (lendV os n) v := by cases v <;> rfl

theorem lendW_mono {os : Objs} {f f' : AV → Option AV} (ih : ∀ v d, f v = some d → f' v = some d) {v d : AV} (h : lendW os f v = some d) : lendW os f' v = some d := by
  cases v
  case slR k ver off len sw ag =>
    simp only [lendW] at h ⊢
    split at h
    · rename_i ver' var cs hget
      split at h
      · rename_i hc
        simp only [hc, if_true]
        split at h
        · rename_i ds hds
          rw [lendMany_mono ih hds]; exact h
        · cases h
      · cases h
    · cases h
  case agg cs =>
    simp only [lendW] at h ⊢
    split at h
    · rename_i ds hds
      rw [lendMany_mono ih hds]; exact h
    · cases h
  case tup cs =>
    simp only [lendW] at h ⊢
    split at h
    · rename_i ds hds
      rw [lendMany_mono ih hds]; exact h
    · cases h
  all_goals exact h

theorem lendV_succ {os : Objs} : ∀ (n : Nat) (v d : AV), lendV os n v = some d → lendV os (n + 1) v = some d
  | 0, v, d, h => by simp [lendV] at h
  | n + 1, v, d, h => by
    rw [lendV_eq] at h ⊢
    exact lendW_mono (lendV_succ (os := os) n) h

theorem lendV_mono {os : Objs} {n m : Nat} (hm : n ≤ m) {v d : AV} (h : lendV os n v = some d) : lendV os m v = some d := by
  induction hm with
  | refl => exact h
  | step _ ih => exact lendV_succ _ _ _ ih

theorem lendV_one {os : Objs} {n m : Nat} {v d d' : AV} (h : lendV os n v = some d) (h' : lendV os m v = some d') : d = d' := by
  have h1 := lendV_mono (Nat.le_max_left n m) h
  have h2 := lendV_mono (Nat.le_max_right n m) h'
  rw [h1] at h2
  exact Option.some.inj h2

theorem lendMany_spec {f : AV → Option AV} : ∀ {vs ds : List AV}, lendMany f vs = some ds → ds.length = vs.length ∧ ∀ (j : Nat) (v d : AV), vs[j]? = some v → ds[j]? = some d → f v = some d
  | [], ds, h => by
    simp only [lendMany, Option.some.injEq] at h; subst h
    exact ⟨rfl, fun j v d hv => by simp at hv⟩
  | v :: vs, ds, h => by
    simp only [lendMany] at h
    split at h
    · rename_i d h1
      split at h
      · rename_i ds' h2
        simp only [Option.some.injEq] at h; subst h
        obtain ⟨q1, q2⟩ := lendMany_spec h2
        refine ⟨by simp [q1], fun j v' d' hv hd => ?_⟩
        cases j with
        | zero =>
          simp only [List.getElem?_cons_zero, Option.some.injEq] at hv hd
          subst hv hd; exact h1
        | succ j => exact q2 j v' d' (by simpa using hv) (by simpa using hd)
      · cases h
    · cases h

theorem datas_of_mem : ∀ {l : List AV}, (∀ c ∈ l, AV.data c = some c) → AV.datas l = some l
  | [], _ => rfl
  | a :: l, h => by
    have h1 := datas_of_mem (l := l) fun c hc => h c (List.mem_cons_of_mem _ hc)
    simp [AV.datas, h a (by simp), h1]

/-- what is lent is data; a cell stays a cell -/
theorem lendV_data {os : Objs} : ∀ (n : Nat) (v d : AV), lendV os n v = some d → AV.data d = some d ∧ (v.scalar = true → d.scalar = true)
  | 0, v, d, h => by simp [lendV] at h
  | n + 1, v, d, h => by
    have ih := lendV_data (os := os) n
    have many : ∀ {vs ds : List AV}, lendMany (lendV os n) vs = some ds → AV.datas ds = some ds := fun {vs ds} hd => by
      obtain ⟨q1, q2⟩ := lendMany_spec hd
      refine datas_of_mem fun c hc => ?_
      obtain ⟨j, hj⟩ := List.mem_iff_getElem?.1 hc
      have hlt := (List.getElem?_eq_some_iff.1 hj).1
      have hv : vs[j]? = some (vs[j]'(by omega)) := by simp
      exact (ih _ _ (q2 j _ _ hv hj)).1
    cases v
    case slR k ver off len sw ag =>
      simp only [lendV] at h
      split at h
      · split at h
        · split at h
          · split at h
            · simp only [Option.some.injEq] at h; subst h; exact ⟨rfl, fun _ => rfl⟩
            · cases h
          · cases h
        · cases h
      · cases h
    case agg cs =>
      simp only [lendV] at h
      split at h
      · rename_i ds hds
        simp only [Option.some.injEq] at h; subst h
        exact ⟨by simp [AV.data, many hds], fun hs => by simp [AV.scalar] at hs⟩
      · cases h
    case tup cs =>
      simp only [lendV] at h
      split at h
      · rename_i ds hds
        simp only [Option.some.injEq] at h; subst h
        exact ⟨by simp [AV.data, many hds], fun hs => by simp [AV.scalar] at hs⟩
      · cases h
    all_goals
      simp only [lendV] at h
      exact ⟨data_data h, fun hs => data_scalar h hs⟩

/-- a cell of an object, as it is lent -/
def Lent (g : G) (os : Objs) (b o : Nat) (d : AV) : Prop :=
  ∃ k ver var cs s c n, os.get k = some (.arr ver var cs) ∧ g.inj k ver = some (.at b s) ∧ cs[o]? = some c ∧ lendV os n c = some d

theorem Lent.one {w : World} {os : Objs} (hw : WOk g os.get w) {b o : Nat} {d d' : AV} (h : Lent g os b o d) (h' : Lent g os b o d') : d = d' := by
  obtain ⟨k, ver, var, cs, s, c, n, h1, h2, h3, h4⟩ := h
  obtain ⟨k', ver', var', cs', s', c', n', p1, p2, p3, p4⟩ := h'
  have hk := hw.sep k k' b ⟨_, s, h1, h2⟩ ⟨_, s', p1, p2⟩
  subst hk
  rw [h1] at p1
  simp only [Option.some.injEq, Obj.arr.injEq] at p1
  obtain ⟨rfl, rfl, rfl⟩ := p1
  rw [h3] at p3
  simp only [Option.some.injEq] at p3; subst p3
  exact lendV_one h4 p4

open Classical in
/-- all that can be lent is lent; nothing can be written -/
noncomputable def G.lend (g : G) (os : Objs) : G :=
  { imm := fun b o => if h : ∃ d, Lent g os b o d then some (Classical.choose h) else g.imm b o
    immM := g.immM
    inj := fun _ _ => none }

theorem lend_imm {w : World} {os : Objs} (hw : WOk g os.get w) {b o : Nat} {d : AV} (h : Lent g os b o d) : (g.lend os).imm b o = some d := by
  have hex : ∃ d, Lent g os b o d := ⟨d, h⟩
  simp only [G.lend, hex, dif_pos]
  congr 1
  exact Lent.one hw (Classical.choose_spec hex) h

theorem lend_old {os : Objs} {b : Nat} (hn : ∀ k, ¬ Owns g os.get k b) (o : Nat) : (g.lend os).imm b o = g.imm b o := by
  have : ¬ ∃ d, Lent g os b o d := by
    rintro ⟨d, k, ver, var, cs, s, c, n, h1, h2, _⟩
    exact hn k ⟨_, s, h1, h2⟩
  simp only [G.lend, this, dif_neg, not_false_eq_true]

theorem lend_same {w : World} {os : Objs} (hw : WOk g os.get w) : SameImm g (g.lend os) := by
  refine ⟨fun b o a ha => ?_, fun _ _ h => h⟩
  rw [lend_old fun k ho => ?_]
  · exact ha
  · rw [(hw.own k b ho).1 o] at ha; cases ha

theorem lend_R {w : World} {os : Objs} (hw : WOk g os.get w) : ∀ (n : Nat) (v d : AV) (cv : Value), lendV os n v = some d → R g v cv → R (g.lend os) d cv
  | 0, v, d, cv, h, _ => by simp [lendV] at h
  | n + 1, v, d, cv, h, hr => by
    have ih := lend_R hw n
    have many : ∀ {vs ds : List AV} {cvs : List Value}, lendMany (lendV os n) vs = some ds → RL g vs cvs → RL (g.lend os) ds cvs := fun {vs ds cvs} hd hl => by
      obtain ⟨q1, q2⟩ := lendMany_spec hd
      refine RL_mk (by rw [q1, RL_len hl]) fun j c v hc hv => ?_
      have hlt := (List.getElem?_eq_some_iff.1 hc).1
      have hvv : vs[j]? = some (vs[j]'(by omega)) := by simp
      obtain ⟨u, h1, h2⟩ := RL_get hl j _ hvv
      rw [hv] at h1
      simp only [Option.some.injEq] at h1; subst h1
      exact ih _ _ _ (q2 j _ _ hvv hc) h2
    cases v
    case slR k ver off len sw ag =>
      simp only [lendV] at h
      split at h
      · rename_i ver' var cs hget
        split at h
        · rename_i hc
          simp only [Bool.and_eq_true, Nat.beq_eq, Nat.ble_eq] at hc
          obtain ⟨rfl, hle⟩ := hc
          split at h
          · rename_i ds hds
            split at h
            · rename_i xs hxs
              simp only [Option.some.injEq] at h; subst h
              obtain ⟨q1, q2⟩ := lendMany_spec hds
              simp only [R] at hr
              rcases hr with ⟨hi, ho0, hl0, hcv⟩ | ⟨b, s, c, hi, hcv, hlc, hcs⟩
              · subst ho0 hl0
                simp only [elemsOf, Option.some.injEq] at hxs; subst hxs
                rw [hcv]; exact R_slice_nil
              · obtain ⟨C, el, hC, hsz, hcl, hcells⟩ := hw.row hget hi
                have hsd : scalars ds = true := by
                  refine scalars_of_get fun j d hd => ?_
                  have hlt := (List.getElem?_eq_some_iff.1 hd).1
                  have hv : ((cs.drop off).take (len * sw))[j]? = some (((cs.drop off).take (len * sw))[j]'(by omega)) := List.getElem?_eq_getElem _
                  refine (lendV_data n _ _ (q2 j _ _ hv hd)).2 ?_
                  rw [List.getElem?_take] at hv
                  split at hv
                  · rw [List.getElem?_drop] at hv
                    exact (hcells _ _ hv).choose_spec.2.2
                  · cases hv
                have hrow : ImmRow (g.lend os) b off ds := by
                  intro j d hd
                  have hlt := (List.getElem?_eq_some_iff.1 hd).1
                  have hv : ((cs.drop off).take (len * sw))[j]? = some (((cs.drop off).take (len * sw))[j]'(by omega)) := List.getElem?_eq_getElem _
                  refine lend_imm hw ⟨k, ver, var, cs, s, _, n, hget, hi, ?_, q2 j _ _ hv hd⟩
                  rw [List.getElem?_take] at hv
                  split at hv
                  · rw [List.getElem?_drop] at hv; exact hv
                  · cases hv
                obtain ⟨hxl, _⟩ := elemsOf_spec hxs hsd
                rw [hcv]
                simp only [R]
                exact ⟨_, c, by rw [hxl], by rw [hxl]; exact hlc, by simp, fun _ => ⟨b, off, _, rfl, elems_imm hxs hsd hrow⟩⟩
            · cases h
          · cases h
        · cases h
      · cases h
    case agg cs =>
      simp only [lendV] at h
      split at h
      · rename_i ds hds
        simp only [Option.some.injEq] at h; subst h
        simp only [R] at hr ⊢
        obtain ⟨vs, hcv, hl⟩ := hr
        exact ⟨vs, hcv, many hds hl⟩
      · cases h
    case tup cs =>
      simp only [lendV] at h
      split at h
      · rename_i ds hds
        simp only [Option.some.injEq] at h; subst h
        simp only [R] at hr ⊢
        obtain ⟨vs, hcv, hl⟩ := hr
        exact ⟨vs, hcv, many hds hl⟩
      · cases h
    all_goals
      simp only [lendV] at h
      exact R_data (lend_same hw) h hr

theorem lend_wok {w : World} {os : Objs} (hw : WOk g os.get w) : WOk (g.lend os) (fun _ => none) w := by
  refine ⟨fun b o a ha => ?_, fun b ks vs ha => ?_, fun k o hm => (by cases hm), fun k k' b h1 _ => ?_, fun k b h1 => ?_, fun k o hm => (by cases hm)⟩
  · by_cases hex : ∃ d, Lent g os b o d
    · obtain ⟨d, hl⟩ := hex
      rw [lend_imm hw hl] at ha
      simp only [Option.some.injEq] at ha; subst ha
      obtain ⟨k, ver, var, cs, s, c, n, h1, h2, h3, h4⟩ := hl
      obtain ⟨C, el, hC, hsz, hcl, hcells⟩ := hw.row h1 h2
      obtain ⟨v, p1, p2, p3⟩ := hcells o c h3
      obtain ⟨q1, q2⟩ := lendV_data n c d h4
      exact ⟨v, by simp [World.cell?, hC, p1], lend_R hw n c d v h4 p2, q2 p3, q1⟩
    · have : (g.lend os).imm b o = g.imm b o := by simp only [G.lend, hex, dif_neg, not_false_eq_true]
      rw [this] at ha
      obtain ⟨v, h1, h2, h3, h4⟩ := hw.immc b o a ha
      exact ⟨v, h1, R_data (lend_same hw) h4 h2, h3, h4⟩
  · have ha' : g.immM b = some (ks, vs) := ha
    obtain ⟨h0, h1, es, h2, h3⟩ := hw.immm b ks vs ha'
    refine ⟨fun o => ?_, h1, es, h2, h3.data (lend_same hw) h1⟩
    rw [lend_old fun k ho => ?_]
    · exact h0 o
    · rw [(hw.own k b ho).2] at ha'; cases ha'
  · obtain ⟨o, s, q, _⟩ := h1; cases q
  · obtain ⟨o, s, q, _⟩ := h1; cases q

theorem borrows_R {w : World} {os : Objs} (hw : WOk g os.get w) : ∀ {vs ds : List AV} {cvs : List Value}, borrows os vs = some ds → RL g vs cvs → RL (g.lend os) ds cvs
  | [], ds, cvs, h, hr => by
    simp only [borrows, Option.some.injEq] at h; subst h
    simpa [RL] using hr
  | v :: vs, ds, cvs, h, hr => by
    simp only [borrows] at h
    split at h
    · rename_i d h1
      split at h
      · rename_i ds' h2
        simp only [Option.some.injEq] at h; subst h
        simp only [RL] at hr ⊢
        obtain ⟨cv, r, rfl, p1, p2⟩ := hr
        exact ⟨cv, r, rfl, lend_R hw _ _ _ _ h1 p1, borrows_R hw h2 p2⟩
      · cases h
    · cases h

end Go.Va
/-! Calls: a callee in the caller's memory, beside it, or with its rows lent. -/
namespace Go.Va

variable {P : Program} {g g' : G}

def OutOk : Out → Exit → Prop
  | .norm, .normal => True
  | .exit i, .exit j => i = j
  | .ret, .ret => True
  | _, _ => False

/-- what a piece of code leaves -/
def Post (out : Out) (g : G) (h : H) (w : World) (t' : T) (h' : H) (N : Nat) : Exit → Act → World → Prop := fun e a' w' =>
  OutOk out e ∧ a'.defers = [] ∧ N ≤ a'.tmps.size ∧ ∃ g', Inv g' t' h' a'.tmps w' ∧ Left g h w g' h' w'

abbrev ExecF := AC → T → H → Option (Out × T × H)

def ExecOk (P : Program) (ex : ExecF) : Prop := ∀ (ac : AC) (t : T) (h : H) (out : Out) (t' : T) (h' : H), ex ac t h = some (out, t', h') →
  ∀ (N : Nat) (code : Code), agCode P N code ac = true → ∀ (g : G) (a : Act) (w : World), Inv g t h a.tmps w → N ≤ a.tmps.size → a.defers = [] → code.wp P (Post out g h w t' h' N) a w

theorem ofArgs_get : ∀ (args : List AV) (i n : Nat), (T.ofArgs i args).get n = if i ≤ n then (args[n - i]?).getD .bot else .bot
  | [], i, n => by simp [T.ofArgs, T.get]
  | v :: vs, i, n => by
    rw [T.ofArgs, T.get_cons, ofArgs_get vs (i + 1) n]
    by_cases h : n = i
    · subst h; simp
    · by_cases h2 : i ≤ n
      · have h3 : i + 1 ≤ n := by omega
        simp only [h, if_false, h2, h3, if_true]
        rw [show n - i = (n - (i + 1)) + 1 by omega]
        simp
      · simp [h, h2, show ¬ i + 1 ≤ n by omega]

theorem ofArgs_tok {args : List AV} {cargs : List Value} (hr : RL g args cargs) (m : Nat) : TOk g (T.ofArgs 0 args).get (cargs.toArray ++ Array.replicate m undef) := by
  intro n
  rw [ofArgs_get]
  simp only [Nat.zero_le, if_true, Nat.sub_zero]
  cases h : args[n]? with
  | none => trivial
  | some x =>
    obtain ⟨v, h1, h2⟩ := RL_get hr n x h
    have hlt := (List.getElem?_eq_some_iff.1 h1).1
    simp only [Option.getD_some]
    have : (cargs.toArray ++ Array.replicate m undef).getD n undef = v := by
      rw [Array.getD_eq_getD_getElem?, Array.getElem?_append_left (by simpa using hlt)]
      simp [h1]
    rw [this]; exact h2

theorem agFunc_spec {fn : Func} {af : AFunc} (h : agFunc P fn af = true) : (fn.name == "runtime.NumGoroutine") = false ∧ agRes P fn.results.toList af.res = true ∧ ∃ c, fn.body = some c ∧ agCode P fn.ntmps c af.body = true := by
  unfold agFunc at h
  simp only [Bool.and_eq_true, Bool.not_eq_true'] at h
  obtain ⟨⟨h1, h2⟩, h3⟩ := h
  refine ⟨h1, h2, ?_⟩
  split at h3
  · rename_i c hc; exact ⟨c, hc, h3⟩
  · cases h3

theorem run_callFunc_body {f : FuncId} {fn : Func} {c : Code} (hf : P.funcs[f]? = some fn) (hname : (fn.name == "runtime.NumGoroutine") = false) (hb : fn.body = some c) (args : Array Value) (w : World) :
    (callFunc f args).run P w = .ok (.enter f args) w := by
  have h1 : fn.name ≠ "runtime.NumGoroutine" := by simpa using hname
  simp [callFunc, hf, h1, hb]

/-- a body that runs, and what it gives back -/
theorem body_ok {ex : ExecF} (hex : ExecOk P ex) {f : FuncId} {fn : Func} {af : AFunc} (hf : P.funcs[f]? = some fn) (hag : agFunc P fn af = true) {args : List AV} {h h' : H} {out : Out} {t' : T} {l : List AV}
    (hrun : ex af.body (T.ofArgs 0 args) h = some (out, t', h')) (hout : ∀ i, out ≠ .exit i) (hres : resultsV t' h'.objs af.res = some l)
    {w : World} {cargs : List Value} (hw : WOk g h.objs.get w) (hnd : Nd h.objs) (hfr : Fresh g (· < h.cnt)) (hro : h.ro ≤ h.cnt) (hr : RL g args cargs) {post : Value → World → Prop}
    (hp : ∀ g' cv w', R g' (pack l) cv → WOk g' h'.objs.get w' → Nd h'.objs → Fresh g' (· < h'.cnt) → h'.ro ≤ h'.cnt → Left g h w g' h' w' → post cv w') : CallsF P f cargs.toArray w post := by
  obtain ⟨h1, h2, c, h3, h4⟩ := agFunc_spec hag
  refine .inr ⟨run_callFunc_body hf h1 h3 _ _, calls_of_wp hf h3 ?_⟩
  have hi : Inv g (T.ofArgs 0 args) h (cargs.toArray ++ Array.replicate (fn.ntmps - cargs.toArray.size) undef) w := ⟨ofArgs_tok hr _, hw, hnd, hfr, hro⟩
  refine wp_mono (hex _ _ _ _ _ _ hrun fn.ntmps c h4 g _ w hi (by simp; omega) rfl) fun e a' w' hpost => ?_
  obtain ⟨ho, hd, hn, g', hi', hl⟩ := hpost
  obtain ⟨cv, hcv, hR⟩ := run_results (P := P) h2 hi'.tok hi'.wok hres
  have fin := hp g' cv w' hR hi'.wok hi'.nd hi'.fresh hi'.ro hl
  cases e with
  | normal => exact ⟨hd, cv, hcv, cv, rfl, fin⟩
  | ret => exact ⟨hd, cv, hcv, cv, rfl, fin⟩
  | exit i =>
    cases out with
    | exit j => exact absurd rfl (hout j)
    | norm => exact ho.elim
    | ret => exact ho.elim
  | _ => cases out <;> exact ho.elim

theorem inl_ok {ex : ExecF} (hex : ExecOk P ex) {f : FuncId} {fn : Func} {af : AFunc} (hf : P.funcs[f]? = some fn) (hag : agFunc P fn af = true) {args : List AV} {h h' : H} {v : AV} (hc : callInl ex af args h = some (v, h'))
    {w : World} {cargs : List Value} (hw : WOk g h.objs.get w) (hnd : Nd h.objs) (hfr : Fresh g (· < h.cnt)) (hro : h.ro ≤ h.cnt) (hr : RL g args cargs) : CallsF P f cargs.toArray w (Ret g h w v h') := by
  unfold callInl at hc
  split at hc
  · cases hc
  · rename_i out t' h1 hne hrun
    split at hc
    · rename_i l hres
      simp only [Option.some.injEq, Prod.mk.injEq] at hc
      obtain ⟨rfl, rfl⟩ := hc
      refine body_ok hex hf hag hrun (fun i hi => hne i hi) hres hw hnd hfr hro hr fun g' cv w' p1 p2 p3 p4 p5 p6 => ?_
      have hi : Inv g' [(0, pack l)] h1 #[cv] w' := ⟨fun n => by
        rw [T.get_cons]
        split
        · rename_i hn; subst hn; exact p1
        · trivial, p2, p3, p4, p5⟩
      obtain ⟨g2, q1, q2⟩ := trim_ok hi p6 hro
      refine ⟨g2, ?_, q1.wok, q1.nd, q1.fresh, q2⟩
      have := q1.tok 0
      rw [T.get_cons] at this
      simpa using this
    · cases hc
  · cases hc

/-- a ghost without places -/
def G.bare (g : G) : G := { g with inj := fun _ _ => none }

theorem WOk.bare {m : Mem} {w : World} (hw : WOk g m w) : WOk g.bare (fun _ => none) w := by
  have hs : SameImm g g.bare := ⟨fun _ _ _ h => h, fun _ _ h => h⟩
  refine ⟨fun b o a ha => ?_, fun b ks vs ha => ?_, fun k o hm => (by cases hm), fun k k' b h1 _ => ?_, fun k b h1 => ?_, fun k o hm => (by cases hm)⟩
  · obtain ⟨v, h1, h2, h3, h4⟩ := hw.immc b o a ha
    exact ⟨v, h1, R_data hs h4 h2, h3, h4⟩
  · obtain ⟨h0, h1, es, h2, h3⟩ := hw.immm b ks vs ha
    exact ⟨h0, h1, es, h2, h3.data hs h1⟩
  · obtain ⟨o, s, q, _⟩ := h1; cases q
  · obtain ⟨o, s, q, _⟩ := h1; cases q

def h00 : H := { objs := [], cnt := 0, ro := 0 }

theorem get_h00 : h00.objs.get = fun _ => none := by funext k; rfl

theorem no_owns {b k : Nat} : ¬ Owns g h00.objs.get k b := by
  rintro ⟨o, s, h, _⟩
  rw [get_h00] at h; cases h

theorem pure_ok {ex : ExecF} (hex : ExecOk P ex) {f : FuncId} {fn : Func} {af : AFunc} (hf : P.funcs[f]? = some fn) (hag : agFunc P fn af = true) {args ds : List AV} {h : H} {v : AV} (hd : AV.datas args = some ds) (hc : callPure ex af ds = some v)
    {w : World} {cargs : List Value} (hw : WOk g h.objs.get w) (hnd : Nd h.objs) (hfr : Fresh g (· < h.cnt)) (hr : RL g args cargs) : CallsF P f cargs.toArray w (Ret g h w v h) := by
  unfold callPure at hc
  split at hc
  · cases hc
  · rename_i out t' h1 hne hrun
    split at hc
    · rename_i l hres
      split at hc
      · rename_i v' os' hfz
        simp only [Option.some.injEq] at hc; subst hc
        have hs : SameImm g g.bare := ⟨fun _ _ _ h => h, fun _ _ h => h⟩
        have hw0 : WOk g.bare h00.objs.get w := by rw [get_h00]; exact hw.bare
        refine body_ok (g := g.bare) (h := h00) hex hf hag hrun (fun i hi => hne i hi) hres hw0 List.nodup_nil (fun _ _ _ => rfl) (Nat.le_refl 0) (RL_data hs hd hr) fun g1 cv w' p1 p2 p3 p4 p5 p6 => ?_
        obtain ⟨g2, hz, hv⟩ := freezeV_ok (w := w') (ro := 0) deep _ _ _ _ _ _ hfz p2 p1
        have htr := (p6.tr.trans (hz.tr 0 (fun _ => False)) (Nat.zero_le _))
        let g' : G := { imm := g2.imm, immM := g2.immM, inj := g.inj }
        have hs2 : SameImm g2 g' := ⟨fun _ _ _ h => h, fun _ _ h => h⟩
        have hfull : Full g g' := ⟨fun b o a ha => htr.ext.imm b o a ha, fun b x hx => htr.ext.immM b x hx, fun _ _ _ h => h⟩
        have hk := fun b hb => htr.keep b hb (fun k => no_owns)
        have ha := hw.after (g' := g') (w' := w') (fun b hb => (hk b hb).1) htr.size ⟨htr.os, htr.output, htr.tape, htr.frz⟩ hfull rfl (fun b hb => (hk b hb).2)
          (fun b o a _ hi => by
            obtain ⟨u, q1, q2, q3, q4⟩ := hz.wok.immc b o a hi
            exact ⟨u, q1, R_data hs2 q4 q2, q3, q4⟩)
          (fun b ks vs _ hi => by
            obtain ⟨q0, q1, es, q2, q3⟩ := hz.wok.immm b ks vs hi
            exact ⟨q0, q1, es, q2, q3.data hs2 q1⟩)
        exact ⟨g', R_data hs2 hv.data hv.rel, ha.1, hnd, hfr, ha.2 _ _, Nat.le_refl _, rfl, fun _ _ => rfl⟩
      · cases hc
    · cases hc
  · cases hc

end Go.Va
/-! Calls with rows lent; all calls. -/
namespace Go.Va

variable {P : Program} {g g' : G}

/-- a slice's row lies from s on -/
def High (s : Nat) (cv : Value) : Prop := ∀ b o n c, cv = .slice (some ⟨b, o, none⟩) n c → s ≤ b

theorem own_high {w w' : World} {gl g1 : G} {c : Nat} {N : Nat → Prop} {h1 : H} (ht : Tr c N gl (fun _ => none) w g1 h1.objs.get w') {n : Nat} {os os' : Objs} (hs : Sub os.get h1.objs.get) {v d : AV} {cv : Value}
    (ho : v.own = true) (hf : freezeV 0 n os v = some (d, os')) (hr : R g1 v cv) : High w.heap.size cv := by
  cases n with
  | zero => simp [freezeV] at hf
  | succ n =>
    cases v <;> simp only [AV.own, Bool.false_eq_true] at ho
    case int k i => simp only [R] at hr; subst hr; intro b o n c h; cases h
    case bool b => simp only [R] at hr; subst hr; intro b o n c h; cases h
    case agg cs =>
      simp only [R] at hr
      obtain ⟨vs, rfl, _⟩ := hr
      intro b o n c h; cases h
    case slR k ver off len sw ag =>
      simp only [freezeV] at hf
      split at hf
      · cases hf
      · split at hf
        · rename_i ver' var cs hget
          split at hf
          · rename_i hc
            simp only [Bool.and_eq_true, Nat.beq_eq] at hc
            obtain ⟨rfl, _⟩ := hc
            simp only [R] at hr
            rcases hr with ⟨_, _, _, rfl⟩ | ⟨b, s, c, hi, rfl, _⟩
            · intro b o n c h; cases h
            · intro b' o n' c' h
              simp only [Value.slice.injEq, Option.some.injEq, Addr.mk.injEq] at h
              obtain ⟨⟨rfl, _⟩, _⟩ := h
              rcases ht.foot k b ⟨_, s, hs _ _ hget, hi⟩ with ⟨k', o', s', q, _⟩ | q
              · cases q
              · exact q
          · cases hf
        · cases hf

theorem fzMany_sub {f : Objs → AV → Option (AV × Objs)} (hf : ∀ os v d os', f os v = some (d, os') → Sub os'.get os.get) : ∀ {l ds : List AV} {os os' : Objs}, fzMany f os l = some (ds, os') → Sub os'.get os.get
  | [], ds, os, os', h => by
    simp only [fzMany, Option.some.injEq, Prod.mk.injEq] at h
    obtain ⟨_, rfl⟩ := h
    exact Sub.refl _
  | v :: l, ds, os, os', h => by
    simp only [fzMany] at h
    split at h
    · rename_i d os1 h1
      split at h
      · rename_i ds' os2 h2
        simp only [Option.some.injEq, Prod.mk.injEq] at h
        obtain ⟨_, rfl⟩ := h
        exact (fzMany_sub hf h2).trans (hf _ _ _ _ h1)
      · cases h
    · cases h
theorem freezeV_sub {n : Nat} {os os' : Objs} {v d : AV} (h : freezeV 0 n os v = some (d, os')) : Sub os'.get os.get := by
  induction n generalizing os os' v d with
  | zero => simp [freezeV] at h
  | succ n ih =>
    have hm := fun (l ds : List AV) (os os' : Objs) (h : fzMany (freezeV 0 n) os l = some (ds, os')) => fzMany_sub (fun os v d os' h => ih h) h
    have hdel : ∀ (os : Objs) (k : Nat), Sub (os.del k).get os.get := fun os k => by rw [Objs.get_del]; exact Sub.del _ _
    cases v
    case slR k ver off len sw ag =>
      simp only [freezeV] at h
      split at h
      · cases h
      · split at h
        · split at h
          · split at h
            · rename_i ds os1 hds
              split at h
              · simp only [Option.some.injEq, Prod.mk.injEq] at h
                obtain ⟨_, rfl⟩ := h
                exact (hm _ _ _ _ hds).trans (hdel _ _)
              · cases h
            · cases h
          · cases h
        · cases h
    case mapR r =>
      simp only [freezeV] at h
      split at h
      · cases h
      · split at h
        · split at h
          · rename_i ds os1 hds
            simp only [Option.some.injEq, Prod.mk.injEq] at h
            obtain ⟨_, rfl⟩ := h
            exact (hm _ _ _ _ hds).trans (hdel _ _)
          · cases h
        · cases h
    case agg cs =>
      simp only [freezeV] at h
      split at h
      · rename_i ds os1 hds
        simp only [Option.some.injEq, Prod.mk.injEq] at h
        obtain ⟨_, rfl⟩ := h
        exact hm _ _ _ _ hds
      · cases h
    case tup cs =>
      simp only [freezeV] at h
      split at h
      · rename_i ds os1 hds
        simp only [Option.some.injEq, Prod.mk.injEq] at h
        obtain ⟨_, rfl⟩ := h
        exact hm _ _ _ _ hds
      · cases h
    all_goals
      simp only [freezeV] at h
      split at h
      · simp only [Option.some.injEq, Prod.mk.injEq] at h
        obtain ⟨_, rfl⟩ := h
        exact Sub.refl _
      · cases h

theorem owns_high {w w' : World} {gl g1 : G} {c : Nat} {N : Nat → Prop} {h1 : H} (ht : Tr c N gl (fun _ => none) w g1 h1.objs.get w') {n : Nat} : ∀ {l ds : List AV} {os os' : Objs} {cvs : List Value}, Sub os.get h1.objs.get →
    l.all AV.own = true → fzMany (freezeV 0 n) os l = some (ds, os') → RL g1 l cvs → ∀ cv ∈ cvs, High w.heap.size cv
  | [], ds, os, os', cvs, _, _, _, hr => by simp only [RL] at hr; subst hr; intro cv h; cases h
  | v :: l, ds, os, os', cvs, hs, ho, hf, hr => by
    simp only [fzMany] at hf
    split at hf
    · rename_i d os1 h2
      split at hf
      · rename_i ds' os2 h3
        simp only [RL] at hr
        obtain ⟨cv, r, rfl, p1, p2⟩ := hr
        simp only [List.all_cons, Bool.and_eq_true] at ho
        have hs1 : Sub os1.get os.get := freezeV_sub h2
        intro cv' hcv
        rcases List.mem_cons.1 hcv with rfl | hcv
        · exact own_high ht hs ho.1 h2 p1
        · exact owns_high ht (hs1.trans hs) ho.2 h3 p2 cv' hcv
      · cases hf
    · cases hf

/-- an integer or a bool -/
def AV.intc : AV → Bool
  | .int _ _ | .bool _ => true
  | _ => false

theorem intc_R {v : AV} (h : v.intc = true) {cv : Value} (hr : R g v cv) : R g' v cv := by
  cases v <;> simp only [AV.intc, Bool.false_eq_true] at h <;> simpa [R] using hr

theorem intcs_RL : ∀ {cs : List AV} {vs : List Value}, (∀ c ∈ cs, AV.intc c = true) → RL g cs vs → RL g' cs vs
  | [], vs, _, h => by simpa [RL] using h
  | c :: cs, vs, hc, h => by
    simp only [RL] at h ⊢
    obtain ⟨v, r, e, h1, h2⟩ := h
    exact ⟨v, r, e, intc_R (hc c (by simp)) h1, intcs_RL (fun x hx => hc x (by simp [hx])) h2⟩

theorem ints_cells {v : AV} (h : v.ints = true) : ∀ c ∈ v.cells, AV.intc c = true := by
  cases v <;> simp only [AV.ints, Bool.false_eq_true] at h
  case int => intro c hc; simp only [AV.cells, List.mem_singleton] at hc; subst hc; rfl
  case bool => intro c hc; simp only [AV.cells, List.mem_singleton] at hc; subst hc; rfl
  case agg cs =>
    intro c hc
    simp only [AV.cells] at hc
    have := List.all_eq_true.1 h c hc
    cases c <;> simp_all [AV.intc]

theorem ints_R {v : AV} (h : v.ints = true) {cv : Value} (hr : R g v cv) : R g' v cv := by
  have hc := ints_cells h
  cases v <;> simp only [AV.ints, Bool.false_eq_true] at h
  case int => simpa [R] using hr
  case bool => simpa [R] using hr
  case agg cs =>
    simp only [R] at hr ⊢
    obtain ⟨vs, e, hl⟩ := hr
    exact ⟨vs, e, intcs_RL (fun c hx => hc c hx) hl⟩

/-- cells from s on that are integers are known to both -/
def SameInts (s : Nat) (g g' : G) : Prop := ∀ b o a, s ≤ b → a.intc = true → g.imm b o = some a → g'.imm b o = some a

theorem slT_R {s : Nat} (hs : SameInts s g g') {lim : Bool} {xs : List AV} (hx : xs.all AV.ints = true) {cv : Value} (hh : High s cv) (hr : R g (.slT lim xs) cv) : R g' (.slT lim xs) cv := by
  simp only [R] at hr ⊢
  obtain ⟨a, c, rfl, h1, h2, h3⟩ := hr
  refine ⟨a, c, rfl, h1, h2, fun hne => ?_⟩
  obtain ⟨b, o, w, rfl, hel⟩ := h3 hne
  have hb := hh b o _ _ rfl
  refine ⟨b, o, w, rfl, fun i x hi => ⟨(hel i x hi).1, fun j c' hc => ?_⟩⟩
  have hix : x.ints = true := List.all_eq_true.1 hx x (List.mem_of_getElem? hi)
  exact hs _ _ _ hb (ints_cells hix c' (List.mem_of_getElem? hc)) ((hel i x hi).2 j c' hc)

theorem plain_R {s : Nat} (hs : SameInts s g g') {v : AV} (hp : v.plain = true) {cv : Value} (hh : High s cv) (hhs : ∀ vs : List Value, cv = .tuple vs.toArray → ∀ u ∈ vs, High s u) (hr : R g v cv) : R g' v cv := by
  cases v <;> simp only [AV.plain, Bool.false_eq_true] at hp
  case int => simpa [R] using hr
  case bool => simpa [R] using hr
  case agg cs => exact ints_R (by simpa [AV.ints] using hp) hr
  case slT lim xs => exact slT_R hs hp hh hr
  case tup vs =>
    simp only [R] at hr ⊢
    obtain ⟨us, e, hl⟩ := hr
    refine ⟨us, e, ?_⟩
    have hu := hhs us e
    clear e hh hhs
    induction vs generalizing us with
    | nil => simpa [RL] using hl
    | cons v vs ih =>
      simp only [RL] at hl ⊢
      obtain ⟨u, r, rfl, h1, h2⟩ := hl
      simp only [List.all_cons, Bool.and_eq_true] at hp
      refine ⟨u, r, rfl, ?_, ih hp.2 r h2 (fun x hx => hu x (by simp [hx]))⟩
      have hv := hp.1
      split at hv
      · exact slT_R hs hv (hu u (by simp)) h1
      · exact ints_R hv h1

end Go.Va
/-! All calls. -/
namespace Go.Va

variable {P : Program} {g g' : G}

theorem freezeV_tup (ro n : Nat) (os : Objs) (l : List AV) : freezeV ro (n + 1) os (.tup l) = match fzMany (freezeV ro n) os l with | some (ds, os) => some (.tup ds, os) | none => none := rfl

theorem pack_high {w w' : World} {gl g1 : G} {c : Nat} {N : Nat → Prop} {h1 : H} (ht : Tr c N gl (fun _ => none) w g1 h1.objs.get w') {l : List AV} {d : AV} {os' : Objs} {cv : Value} (ho : l.all AV.own = true)
    (hf : freezeV 0 deep h1.objs (pack l) = some (d, os')) (hr : R g1 (pack l) cv) : High w.heap.size cv ∧ ∀ vs : List Value, cv = .tuple vs.toArray → ∀ u ∈ vs, High w.heap.size u := by
  have tup : pack l = .tup l → High w.heap.size cv ∧ ∀ vs : List Value, cv = .tuple vs.toArray → ∀ u ∈ vs, High w.heap.size u := by
    intro hp
    rw [hp] at hf hr
    simp only [R] at hr
    obtain ⟨vs, rfl, hl⟩ := hr
    rw [show deep = 5 + 1 from rfl, freezeV_tup] at hf
    split at hf
    · rename_i ds os1 hds
      refine ⟨fun b o n c h => (by cases h), fun us hu u hm => ?_⟩
      simp only [Value.tuple.injEq] at hu
      have : vs = us := by simpa using congrArg Array.toList hu
      subst this
      exact owns_high ht (Sub.refl _) ho hds hl u hm
    · cases hf
  match l, ho, hf, hr, tup with
  | [], _, _, _, tup => exact tup rfl
  | [x], ho, hf, hr, _ =>
    simp only [List.all_cons, List.all_nil, Bool.and_true] at ho
    simp only [pack] at hf hr
    refine ⟨own_high ht (Sub.refl _) ho hf hr, fun vs hv u hu => ?_⟩
    subst hv
    cases x <;> simp only [AV.own, Bool.false_eq_true] at ho <;> simp [R] at hr
  | x :: y :: l, _, _, _, tup => exact tup rfl

theorem bor_ok {ex : ExecF} (hex : ExecOk P ex) {f : FuncId} {fn : Func} {af : AFunc} (hf : P.funcs[f]? = some fn) (hag : agFunc P fn af = true) {args ds : List AV} {h : H} {v : AV} (hd : borrows h.objs args = some ds) (hc : callBor ex af ds = some v)
    {w : World} {cargs : List Value} (hw : WOk g h.objs.get w) (hnd : Nd h.objs) (hfr : Fresh g (· < h.cnt)) (hr : RL g args cargs) : CallsF P f cargs.toArray w (Ret g h w v h) := by
  unfold callBor at hc
  split at hc
  · cases hc
  · rename_i out t' h1 hne hrun
    split at hc
    · rename_i l hres
      split at hc
      · rename_i hown
        split at hc
        · rename_i v' os' hfz
          split at hc
          · rename_i hplain
            simp only [Option.some.injEq] at hc; subst hc
            have hw0 : WOk (g.lend h.objs) h00.objs.get w := by rw [get_h00]; exact lend_wok hw
            refine body_ok (g := g.lend h.objs) (h := h00) hex hf hag hrun (fun i hi => hne i hi) hres hw0 List.nodup_nil (fun _ _ _ => rfl) (Nat.le_refl 0) (borrows_R hw hd hr) fun g1 cv w' p1 p2 p3 p4 p5 p6 => ?_
            obtain ⟨g2, hz, hv⟩ := freezeV_ok (w := w') (ro := 0) deep _ _ _ _ _ _ hfz p2 p1
            have htr := p6.tr
            rw [get_h00] at htr
            obtain ⟨hh, hhs⟩ := pack_high htr hown hfz p1
            let g' : G := { imm := fun b o => if b < w.heap.size then g.imm b o else (match g2.imm b o with | some a => if a.intc then some a else none | none => none), immM := g.immM, inj := g.inj }
            have hnew : ∀ b o a, w.heap.size ≤ b → g'.imm b o = some a → g2.imm b o = some a ∧ a.intc = true := by
              intro b o a hb hi
              simp only [g'] at hi
              rw [if_neg (by omega)] at hi
              split at hi
              · rename_i a' ha'
                split at hi
                · rename_i hia
                  simp only [Option.some.injEq] at hi; subst hi
                  exact ⟨ha', hia⟩
                · cases hi
              · cases hi
            have hfull : Full g g' := ⟨fun b o a ha => by
              simp only [g']; rw [if_pos (hw.imm_lt ha)]; exact ha, fun _ _ h => h, fun _ _ _ h => h⟩
            have hsame : SameInts w.heap.size g2 g' := by
              intro b o a hb hi ha
              simp only [g']
              rw [if_neg (by omega), ha]
              simp [hi]
            have ha := hw.after (g' := g') (w' := w') (fun b hb => (htr.keep b hb (fun k ⟨o, s, q, _⟩ => by cases q)).1) htr.size ⟨htr.os, htr.output, htr.tape, htr.frz⟩ hfull rfl
              (fun b hb => ⟨fun o => by simp only [g']; rw [if_pos hb], rfl⟩)
              (fun b o a hb hi => by
                obtain ⟨q0, q00⟩ := hnew b o a hb hi
                obtain ⟨u, q1, q2, q3, q4⟩ := hz.wok.immc b o a q0
                exact ⟨u, q1, intc_R q00 q2, q3, q4⟩)
              (fun b ks vs hb hi => by
                have := hw.immM_lt (b := b) (x := (ks, vs)) hi
                omega)
            exact ⟨g', plain_R hsame hplain hh hhs hv.rel, ha.1, hnd, hfr, ha.2 _ _, Nat.le_refl _, rfl, fun _ _ => rfl⟩
          · cases hc
        · cases hc
      · cases hc
    · cases hc
  · cases hc

/-- what a hand-made answer must keep to -/
def PrimOk (P : Program) (f : FuncId) (p : List AV → H → Option (AV × H)) : Prop := ∀ (args : List AV) (h : H) (v : AV) (h' : H), p args h = some (v, h') →
  ∀ (g : G) (w : World) (cargs : List Value), WOk g h.objs.get w → Nd h.objs → Fresh g (· < h.cnt) → h.ro ≤ h.cnt → RL g args cargs → CallsF P f cargs.toArray w (Ret g h w v h')

def TabOk (P : Program) (F : Tab) : Prop := ∀ f e, F f = some e → match e with
  | .code af => ∃ fn, P.funcs[f]? = some fn ∧ agFunc P fn af = true
  | .prim p => PrimOk P f p

theorem callBody_ok {ex : ExecF} {F : Tab} (hex : ExecOk P ex) (hF : TabOk P F) : CallOk P (callBody ex F) := by
  intro md f args h v h' hc g w cargs hw hnd hfr hro hr
  unfold callBody at hc
  split at hc
  · cases hc
  · rename_i p hp
    exact hF f _ hp args h v h' hc g w cargs hw hnd hfr hro hr
  · rename_i af hfa
    obtain ⟨fn, hf, hag⟩ := hF f _ hfa
    have pur : ∀ {ds : List AV}, AV.datas args = some ds → (match callPure ex af ds with | some v => some (v, h) | none => none) = some (v, h') → CallsF P f cargs.toArray w (Ret g h w v h') := by
      intro ds hd hq
      cases hcp : callPure ex af ds with
      | none => rw [hcp] at hq; cases hq
      | some v0 =>
        rw [hcp] at hq
        simp only [Option.some.injEq, Prod.mk.injEq] at hq
        obtain ⟨rfl, rfl⟩ := hq
        exact pure_ok hex hf hag hd hcp hw hnd hfr hr
    cases md
    · simp only at hc
      cases hd : AV.datas args with
      | none => rw [hd] at hc; cases hc
      | some ds => rw [hd] at hc; exact pur hd hc
    · exact inl_ok hex hf hag hc hw hnd hfr hro hr
    · simp only at hc
      cases hd : borrows h.objs args with
      | none => rw [hd] at hc; cases hc
      | some ds =>
        rw [hd] at hc
        simp only at hc
        cases hcp : callBor ex af ds with
        | none => rw [hcp] at hc; cases hc
        | some v0 =>
          rw [hcp] at hc
          simp only [Option.some.injEq, Prod.mk.injEq] at hc
          obtain ⟨rfl, rfl⟩ := hc
          exact bor_ok hex hf hag hd hcp hw hnd hfr hr
    · simp only at hc
      cases hd : AV.datas args with
      | none => rw [hd] at hc; exact inl_ok hex hf hag hc hw hnd hfr hro hr
      | some ds => rw [hd] at hc; exact pur hd hc

end Go.Va
/-! Regions whose order is given. -/
namespace Go.Va

variable {P : Program} {g g' : G}

theorem agOper_spec {N : Nat} {ops : Array Oper} {o : Oper} {x : AOpr} (h : agOper P N ops o x = true) : o.dst = x.dst ∧ (∀ d, o.dst = some d → d < N) ∧ agOp P o.op x.op = true ∧
    ((o.guard = none ∧ x.guard = none) ∨ ∃ j gd w, o.guard = some (j, w) ∧ x.guard = some (gd, w) ∧ (ops[j]?).bind (·.dst) = some gd) := by
  unfold agOper at h
  simp only [Bool.and_eq_true, beq_iff_eq] at h
  obtain ⟨⟨⟨h1, h2⟩, h3⟩, h4⟩ := h
  refine ⟨h1, fun d hd => ?_, h4, ?_⟩
  · rw [hd] at h2; simpa [Nat.blt_eq] using h2
  · split at h3
    · rename_i q1 q2; exact .inl ⟨q1, q2⟩
    · rename_i j w gd w' q1 q2
      simp only [Bool.and_eq_true, beq_iff_eq] at h3
      obtain ⟨rfl, h5⟩ := h3
      exact .inr ⟨j, gd, w, q1, q2, h5⟩
    · cases h3

/-- is the operation wanted? -/
theorem wanted_bool {ops : Array Oper} {o : Oper} {tmps : Array Value} {j gd : Nat} {w b : Bool} (hg : o.guard = some (j, w)) (hd : (ops[j]?).bind (·.dst) = some gd) (hr : R g (.bool b) (tmps.getD gd undef)) :
    Region.wanted o (yielded ops tmps) = (b == w) := by
  simp only [R] at hr
  have : tmps[gd]? = some (.bool b) := by
    rw [Array.getD_eq_getD_getElem?] at hr
    cases h : tmps[gd]? with
    | none => rw [h] at hr; simp [undef] at hr
    | some v => rw [h] at hr; simpa using hr
  unfold Region.wanted yielded
  rw [hg]
  simp only [hd, Option.bind_some, this]
  rfl

theorem wanted_none {o : Oper} {y : Nat → Option Bool} (hg : o.guard = none) : Region.wanted o y = true := by
  unfold Region.wanted; rw [hg]

/-- what a step leaves -/
def Stepped (g : G) (h : H) (w : World) (nk : Nat) (v : AV) (h' : H) (cv : Value) (w' : World) : Prop :=
  ∃ g', R g' v cv ∧ WOk g' h'.objs.get w' ∧ Nd h'.objs ∧ Fresh g' (· < h'.cnt) ∧ h.cnt ≤ h'.cnt ∧ h'.ro = h.ro ∧ (∀ k, k < h.ro → h'.objs.get k = h.objs.get k) ∧ Tr h.cnt (· = nk) g h.objs.get w g' h'.objs.get w'

theorem objs_lt {h : H} {w : World} (hw : WOk g h.objs.get w) {A : Nat → Prop} (hf : Fresh g A) {k : Nat} (hk : ¬ A k) : h.objs.get k = none := by
  cases hg : h.objs.get k with
  | none => rfl
  | some o =>
    obtain ⟨p, hp⟩ := (hw.objs k o hg).placed
    rw [hf k _ hk] at hp; cases hp

theorem objs_none {m : Mem} {w : World} (hw : WOk g m w) {k : Nat} (hk : ∀ ver, g.inj k ver = none) : m k = none := by
  cases hg : m k with
  | none => rfl
  | some o =>
    obtain ⟨p, hp⟩ := (hw.objs k o hg).placed
    rw [hk] at hp; cases hp

/-- keys that were not placed and are not the new one are not placed -/
theorem fresh_tr {m m' : Mem} {w w' : World} {nk c : Nat} (hw : WOk g m w) (hf : Fresh g (· < c)) (hnk : nk < c) (ht : ∀ d, Tr d (· = nk) g m w g' m' w') : Fresh g' (· < c) := by
  intro k ver hk
  have hn : ∀ ver, g.inj k ver = none := fun ver => hf k ver hk
  rw [((ht (k + 1)).unal k (by omega) (by omega) (objs_none hw hn)).2 ver]
  exact hn ver

theorem effs_step {o : Oper} {a : Act} {w : World} {h h' : H} {nk : Nat} {v : AV} {d : Option (Nat × Obj)} (hw : WOk g h.objs.get w) (hnd : Nd h'.objs) (hf : Fresh g (· < h.cnt)) (hnk : nk < h.cnt)
    (he : Effs P g h.objs.get w nk (execOp a.eval o) v d) (ho : h'.objs.get = updO h.objs.get d) (hc : h'.cnt = h.cnt) (hr : h'.ro = h.ro) (hlow : ∀ k, k < h.ro → h'.objs.get k = h.objs.get k) :
    StepTo P o a w (Stepped g h w nk v h') := by
  obtain ⟨nx, cv, w', g', h1, h2, h3, h4, h5, h6⟩ := he
  exact StepTo.value h1 h2 ⟨g', h3, by rw [ho]; exact h4, hnd, by rw [hc]; exact fresh_tr hw hf hnk h6, by rw [hc]; exact Nat.le_refl _, hr, hlow, by rw [ho]; exact h6 _⟩

end Go.Va
/-! One operation of a region whose order is given. -/
namespace Go.Va

variable {P : Program} {g g' : G}

theorem storeV_nd {h h' : H} {n : Nat} {p v : AV} (hv : storeV h n p v = some h') (hnd : Nd h.objs) : Nd h'.objs := by
  obtain ⟨k, ver, off, var, cs, _, _, _, _, _, _, rfl⟩ := storeV_spec hv
  exact hnd.set _ _

theorem effV_nd {t : T} {nk : Nat} {h h' : H} {ao : AOp} {v : AV} (hv : effV t nk h ao = some (v, h')) (hnd : Nd h.objs) (hn : h.objs.get nk = none) : Nd h'.objs := by
  cases ao
  case store n p x =>
    simp only [effV] at hv
    split at hv
    · rename_i h1 hst
      simp only [Option.some.injEq, Prod.mk.injEq] at hv
      obtain ⟨_, rfl⟩ := hv
      exact storeV_nd hst hnd
    · cases hv
  case mupd kn m k x =>
    simp only [effV] at hv
    split at hv
    · split at hv
      · rename_i h1 hst
        simp only [Option.some.injEq, Prod.mk.injEq] at hv
        obtain ⟨_, rfl⟩ := hv
        unfold mupdV at hst
        split at hst
        · split at hst
          · cases hst
          · split at hst
            · split at hst
              · simp only [Option.some.injEq] at hst; subst hst; exact hnd.set _ _
              · simp only [Option.some.injEq] at hst; subst hst; exact hnd.set _ _
              · cases hst
            · cases hst
        · cases hst
      · cases hv
    · cases hv
  case ment zero kn m k =>
    simp only [effV] at hv
    unfold mentV at hv
    split at hv
    · split at hv
      · cases hv
      · split at hv
        · split at hv
          · split at hv
            · simp only [Option.some.injEq, Prod.mk.injEq] at hv
              obtain ⟨_, rfl⟩ := hv
              exact hnd
            · cases hv
          · simp only [Option.some.injEq, Prod.mk.injEq] at hv
            obtain ⟨_, rfl⟩ := hv
            exact hnd.set _ _
          · cases hv
        · cases hv
    · cases hv
  case estore m s x =>
    simp only [effV] at hv
    split at hv
    · split at hv
      · cases hv
      · split at hv
        · split at hv
          · simp only [Option.some.injEq, Prod.mk.injEq] at hv
            obtain ⟨_, rfl⟩ := hv
            exact hnd.set _ _
          · cases hv
        · cases hv
    · cases hv
  case app sh by_ x y =>
    simp only [effV] at hv
    unfold appV at hv
    split at hv
    · split at hv
      · cases hv
      · split at hv
        · split at hv
          · simp only [Option.some.injEq, Prod.mk.injEq] at hv
            obtain ⟨_, rfl⟩ := hv
            exact hnd
          · split at hv
            · split at hv
              · simp only [Option.some.injEq, Prod.mk.injEq] at hv
                obtain ⟨_, rfl⟩ := hv
                exact hnd.set _ _
              · cases hv
            · cases hv
        · cases hv
    · split at hv
      · simp only [Option.some.injEq, Prod.mk.injEq] at hv
        obtain ⟨_, rfl⟩ := hv
        exact hnd.cons hn _
      · simp only [Option.some.injEq, Prod.mk.injEq] at hv
        obtain ⟨_, rfl⟩ := hv
        exact hnd
      · cases hv
  case clear zero x =>
    simp only [effV] at hv
    split at hv
    · simp only [Option.some.injEq, Prod.mk.injEq] at hv
      obtain ⟨_, rfl⟩ := hv
      exact hnd
    · split at hv
      · simp only [Option.some.injEq, Prod.mk.injEq] at hv
        obtain ⟨_, rfl⟩ := hv
        exact hnd
      · split at hv
        · cases hv
        · split at hv
          · split at hv
            · simp only [Option.some.injEq, Prod.mk.injEq] at hv
              obtain ⟨_, rfl⟩ := hv
              exact hnd.set _ _
            · cases hv
          · cases hv
    · cases hv
  all_goals simp [effV] at hv

/-- ONE OPERATION, in the order of the text -/
theorem opSeq {o : Oper} {ao : AOp} {t : T} {a : Act} {w : World} {call : CallF} (hc : CallOk P call) {h h' : H} {v : AV} {base j : Nat} (hag : agOp P o.op ao = true) (ht : TOn g t a.tmps ao.uses)
    (hw : WOk g h.objs.get w) (hnd : Nd h.objs) (hf : Fresh g (· < h.cnt)) (hro : h.ro ≤ base) (hbase : base + j < h.cnt) (hn : ∀ ver, g.inj (base + j) ver = none) (hv : stepV call false base j t h ao = some (v, h')) :
    StepTo P o a w (Stepped g h w (base + j) v h') := by
  have hno := objs_none hw hn
  have same : ∀ {v' : AV} {cv : Value}, R g v' cv → Stepped g h w (base + j) v' h cv w := fun hr =>
    ⟨g, hr, hw, hnd, hf, Nat.le_refl _, rfl, fun _ _ => rfl, Tr.refl _ _ _ _ _⟩
  have ofRet : StepTo P o a w (Ret g h w v h') → StepTo P o a w (Stepped g h w (base + j) v h') := fun hs => hs.mono fun cv w' hr => by
    obtain ⟨g', h1, h2, h3, h4, h5⟩ := hr
    exact ⟨g', h1, h2, h3, h4, h5.cnt, h5.ro, h5.low, h5.tr.weaken (Nat.le_refl _) (fun _ _ hk => hk.elim)⟩
  unfold stepV at hv
  cases hk : ao.kd <;> rw [hk] at hv <;> simp only [Bool.false_eq_true, if_false] at hv
  case inert =>
    split at hv
    · rename_i v0 hv0
      simp only [Option.some.injEq, Prod.mk.injEq] at hv
      obtain ⟨rfl, rfl⟩ := hv
      obtain ⟨cv, h1, h2⟩ := inert_ok (P := P) hag ht hw.fixed hv0
      exact StepTo.value h1 (.inl rfl) (same h2)
    · cases hv
  case mem =>
    split at hv
    · rename_i v0 hv0
      simp only [Option.some.injEq, Prod.mk.injEq] at hv
      obtain ⟨rfl, rfl⟩ := hv
      obtain ⟨cv, h1, h2⟩ := mem_ok (P := P) hag ht hw hv0
      exact StepTo.value h1 (.inl rfl) (same h2)
    · cases hv
  case alloc =>
    split at hv
    · rename_i v0 ob hv0
      simp only [Option.some.injEq, Prod.mk.injEq] at hv
      obtain ⟨rfl, rfl⟩ := hv
      exact effs_step hw (hnd.cons hno _) hf hbase (alloc_ok (P := P) hag ht hw (fun _ _ h => h) hn hv0).effs (Objs.get_cons _ _ _) rfl rfl (fun k hk => by
        show Objs.get ((base + j, ob) :: h.objs) k = _
        rw [Objs.get_cons, upd_other _ _ (by omega)])
    · rename_i v0 hv0
      simp only [Option.some.injEq, Prod.mk.injEq] at hv
      obtain ⟨rfl, rfl⟩ := hv
      exact effs_step hw hnd hf hbase (alloc_ok (P := P) hag ht hw (fun _ _ h => h) hn hv0).effs rfl rfl rfl (fun _ _ => rfl)
    · cases hv
  case eff =>
    obtain ⟨d, h1, h2, h3, h4, h5⟩ := eff_ok (P := P) hag ht hw (fun _ _ h => h) hn hv
    refine effs_step hw (effV_nd hv hnd hno) hf hbase h1 h2 h3 h4 fun k hk => ?_
    rw [h2]
    cases d with
    | none => rfl
    | some p =>
      obtain ⟨k', ob⟩ := p
      refine upd_other _ _ ?_
      rcases h5 k' ob rfl with rfl | ⟨hr, _⟩ <;> omega
  case effN =>
    split at hv
    · rename_i n p x
      split at hv
      · rename_i k ver off hp
        split at hv
        · split at hv
          · rename_i h1 hst
            simp only [Option.some.injEq, Prod.mk.injEq] at hv
            obtain ⟨rfl, rfl⟩ := hv
            rw [← hp] at hst
            obtain ⟨d, q1, q2, q3, q4, q5⟩ := storeOp_ok (P := P) (nk := base + j) (by simpa [agOp] using hag) ht hw (fun _ _ h => h) hst
            refine effs_step hw (storeV_nd hst hnd) hf hbase q1 q2 q3 q4 fun k hk => ?_
            rw [q2]
            cases d with
            | none => rfl
            | some p =>
              obtain ⟨k', ob⟩ := p
              have := (q5 k' ob rfl).1
              exact upd_other _ _ (by omega)
          · cases hv
        · cases hv
      · cases hv
    · cases hv
  case call =>
    cases ao <;> simp only [callV, reduceCtorEq] at hv
    rename_i md eff f args
    exact ofRet (callOp_ok hc hag ht (by simpa only [callV] using hv) hw hnd hf (by omega))
  case callE =>
    cases ao <;> simp only [callV, reduceCtorEq] at hv
    rename_i md eff f args
    exact ofRet (callOp_ok hc hag ht (by simpa only [callV] using hv) hw hnd hf (by omega))
  case none => cases hv

end Go.Va
/-! A region whose order is given. -/
namespace Go.Va

variable {P : Program} {g g' : G}

theorem T.get_put (t : T) (d : Option Nat) (v : AV) (n : Nat) : (t.put d v).get n = if d = some n then v else t.get n := by
  cases d with
  | none => simp [T.put]
  | some d =>
    simp only [T.put, T.get_cons, Option.some.injEq]
    by_cases h : n = d
    · subst h; simp
    · simp [h, Ne.symm h]

theorem put_tmps (a : Act) (d : Option Nat) (v : Value) (n : Nat) (hd : ∀ m, d = some m → m < a.tmps.size) : (a.put d v).tmps.getD n undef = if d = some n then v else a.tmps.getD n undef := by
  cases d with
  | none => simp [Act.put]
  | some d =>
    have hlt := hd d rfl
    simp only [Act.put, Option.some.injEq, Array.getD_eq_getD_getElem?, Array.getElem?_setIfInBounds]
    by_cases h : d = n
    · subst h; simp [hlt]
    · simp [h]

theorem put_size (a : Act) (d : Option Nat) (v : Value) : (a.put d v).tmps.size = a.tmps.size := by
  cases d <;> simp [Act.put]

theorem put_defers' (a : Act) (d : Option Nat) (v : Value) : (a.put d v).defers = a.defers := by
  cases d <;> rfl

theorem TOk.put {t : T} {a : Act} (h : TOk g t.get a.tmps) {d : Option Nat} {v : AV} {cv : Value} (hd : ∀ m, d = some m → m < a.tmps.size) (hv : R g v cv) : TOk g (t.put d v).get (a.put d cv).tmps := by
  intro n
  rw [T.get_put, put_tmps a d cv n hd]
  split
  · exact hv
  · exact h n

/-- the state in the midst of a region -/
structure SInv (g0 : G) (h0 : H) (w0 : World) (base n N j : Nat) (g : G) (t : T) (h : H) (a : Act) (w : World) : Prop where
  tok : TOk g t.get a.tmps
  wok : WOk g h.objs.get w
  nd : Nd h.objs
  fresh : Fresh g (· < h.cnt)
  cnt : base + n ≤ h.cnt
  ro : h.ro = h0.ro
  left : ∀ i, j ≤ i → i < n → ∀ ver, g.inj (base + i) ver = none
  size : N ≤ a.tmps.size
  defers : a.defers = []
  tr : Tr base (fun _ => False) g0 h0.objs.get w0 g h.objs.get w
  low : ∀ k, k < h0.ro → h.objs.get k = h0.objs.get k

theorem SInv.step {g0 : G} {h0 : H} {w0 : World} {base n N j : Nat} {t : T} {h h' : H} {a : Act} {w w' : World} (hi : SInv g0 h0 w0 base n N j g t h a w) {d : Option Nat} (hd : ∀ m, d = some m → m < N) (hj : j < n) {v : AV} {cv : Value}
    (hs : Stepped g h w (base + j) v h' cv w') : ∃ g', SInv g0 h0 w0 base n N (j + 1) g' (t.put d v) h' (a.put d cv) w' := by
  obtain ⟨g', h1, h2, h3, h4, h5, h6, h7, h8⟩ := hs
  have htok : TOk g' t.get a.tmps := hi.tok.mono hi.fresh h8.ext
  refine ⟨g', htok.put (fun m hm => by have := hd m hm; have := hi.size; omega) h1, h2, h3, h4, by have := hi.cnt; omega, by rw [h6, hi.ro], fun i hji hin ver => ?_, by rw [put_size]; exact hi.size, by rw [put_defers']; exact hi.defers, ?_, fun k hk => ?_⟩
  · have hn := hi.left i (by omega) hin
    rw [(h8.unal (base + i) (by have := hi.cnt; omega) (by omega) (objs_none hi.wok hn)).2 ver]
    exact hn ver
  · exact (hi.tr.trans h8 (by have := hi.cnt; omega)).weaken (Nat.le_refl _) (fun k hk hh => hh.elim id (fun e => by omega))
  · rw [h7 k (by rw [hi.ro]; exact hk)]; exact hi.low k hk

theorem SInv.skip {g0 : G} {h0 : H} {w0 : World} {base n N j : Nat} {t : T} {h : H} {a : Act} {w : World} (hi : SInv g0 h0 w0 base n N j g t h a w) {d : Option Nat} (hd : ∀ m, d = some m → m < N) {cv : Value} :
    SInv g0 h0 w0 base n N (j + 1) g (t.put d .bot) h (a.put d cv) w :=
  ⟨hi.tok.put (fun m hm => by have := hd m hm; have := hi.size; omega) trivial, hi.wok, hi.nd, hi.fresh, hi.cnt, hi.ro, fun i hji hin => hi.left i (by omega) hin, by rw [put_size]; exact hi.size, by rw [put_defers']; exact hi.defers, hi.tr, hi.low⟩

theorem seq_ok {call : CallF} (hc : CallOk P call) {ops : Array Oper} {N base n : Nat} {g0 : G} {h0 : H} {w0 : World} (hro : h0.ro ≤ base) {Q : Exit → Act → World → Prop} {t' : T} {h' : H}
    (hQ : ∀ g a w, SInv g0 h0 w0 base n N n g t' h' a w → Q .normal a w) :
    ∀ (r : List AOpr) (os : List Oper) (j : Nat) (t : T) (h : H) (g : G) (a : Act) (w : World), agOpers P N ops os r = true → (∀ i, os[i]? = ops[j + i]?) → j + r.length = n → runOps call false base j r t h = some (t', h') →
      SInv g0 h0 w0 base n N j g t h a w → wpOps P ops Q (List.range' j r.length) a w
  | [], os, j, t, h, g, a, w, _, _, hn, hrun, hi => by
    simp only [runOps, Option.some.injEq, Prod.mk.injEq] at hrun
    obtain ⟨rfl, rfl⟩ := hrun
    simp only [List.length_nil, Nat.add_zero] at hn
    subst hn
    simp only [List.length_nil, List.range'_zero, wpOps]
    exact hQ g a w hi
  | x :: r, [], j, t, h, g, a, w, hag, _, _, _, _ => by simp [agOpers] at hag
  | x :: r, o :: os, j, t, h, g, a, w, hag, hos, hn, hrun, hi => by
    simp only [agOpers, Bool.and_eq_true] at hag
    obtain ⟨hag1, hag2⟩ := hag
    obtain ⟨hdst, hdN, hop, hgd⟩ := agOper_spec hag1
    have ho : ops[j]? = some o := by have := hos 0; simpa using this.symm
    have hos' : ∀ i, os[i]? = ops[j + 1 + i]? := fun i => by have := hos (i + 1); simp only [List.getElem?_cons_succ] at this; rw [this]; congr 1; omega
    simp only [List.length_cons] at hn
    rw [List.length_cons, List.range'_succ, wpOps_cons]
    unfold wpOp
    rw [ho]
    simp only
    have hj : j < n := by omega
    have go : (match stepV call false base j t h x.op with | some (v, h) => runOps call false base (j + 1) r (t.put x.dst v) h | none => none) = some (t', h') → o.wp P a w (wpOps P ops Q (List.range' (j + 1) r.length)) Q := by
      intro hq
      split at hq
      · rename_i v h1 hst
        have hst' := opSeq (P := P) hc hop (fun n _ => hi.tok n) hi.wok hi.nd hi.fresh (by rw [hi.ro]; exact hro) (by have := hi.cnt; omega) (hi.left j (Nat.le_refl _) hj) hst
        refine hst' _ Q fun cv w' hs => ?_
        obtain ⟨g', hi'⟩ := hi.step (d := x.dst) (fun m hm => hdN m (by rw [hdst]; exact hm)) hj hs
        rw [hdst]
        exact seq_ok hc hro hQ r os (j + 1) _ h1 g' _ w' hag2 hos' (by omega) hq hi'
      · cases hq
    simp only [runOps] at hrun
    rcases hgd with ⟨hg1, hg2⟩ | ⟨jj, gd, want, hg1, hg2, hg3⟩
    · rw [hg2] at hrun
      rw [wanted_none hg1, if_pos rfl]
      exact .inl (go hrun)
    · rw [hg2] at hrun
      simp only at hrun
      split at hrun
      · rename_i b hb
        have hrb := hi.tok gd
        rw [hb] at hrb
        rw [wanted_bool hg1 hg3 hrb]
        split at hrun
        · rename_i hbw
          rw [if_pos hbw]
          exact .inl (go hrun)
        · rename_i hbw
          rw [if_neg hbw, hdst]
          exact seq_ok hc hro hQ r os (j + 1) _ h g _ w hag2 hos' (by omega) hrun (hi.skip (fun m hm => hdN m (by rw [hdst]; exact hm)))
      · cases hrun

end Go.Va
