/-
  Texts joined by program: All operations that touch no memory; keys of maps. How memory changes: one object at a time. Reading memory. Operations that make objects. The operations that make an object: what the model does.
-/
import Derived.Test.YtilbbbjfdcnciaaGreatJMb
import Derived.IntWalk
/-! All operations that touch no memory; keys of maps. -/
namespace Go.Va

variable {P : Program} {g : G}

/-! ## Equality at flat types -/

theorem flat_agg {t : TypeId} {n : Nat} (hfa : flatAgg P t n = true) : flatN P maxFlat t = some n ∧ ¬ ∃ q, P.underlying t = some (.int q) := by
  simp only [flatAgg, Bool.and_eq_true] at hfa
  obtain ⟨h, ha⟩ := hfa
  cases hf : flatN P maxFlat t with
  | none => simp [hf] at h
  | some m =>
    simp only [hf, Nat.beq_eq] at h; subst h
    refine ⟨rfl, fun ⟨q, hq⟩ => ?_⟩
    simp [hq, isAggD] at ha

theorem run_equal_flat {t : TypeId} {n : Nat} (hf : flatN P maxFlat t = some n) (hno : ¬ ∃ q, P.underlying t = some (.int q)) {xs ys : List AV} {vs us : List Value} {r : Bool}
    (hx : RL g xs vs) (hy : RL g ys us) (hn : xs.length = n) (hr : eqCells xs ys = some r) (w : World) : (Op.equal t (.agg vs.toArray) (.agg us.toArray)).run P w = .ok r w := by
  obtain ⟨e1, e2, e3⟩ := eqCells_ints hr hx hy
  have hl := RL_len hx
  obtain ⟨r', h1, _, h2⟩ := run_equalIn_flat 9992 maxFlat t n hf w vs us (by omega) (by omega) e2
  have := h2 hno
  have hrr : r' = r := by rw [Bool.eq_iff_iff, h1, e3]
  rw [← hrr]
  exact this

/-! ## Checking a key -/

def Ints (vs : List Value) : Prop := ∀ (j : Nat) (v : Value), vs[j]? = some v → ∃ k a, v = .int k a

def CheckRun (P : Program) (em : Bool) (dd : Nat) (e : TypeId) (n : Nat) : Prop :=
  ∀ (w : World) (vs : List Value), vs.length = n → Ints vs →
    ((∃ q, P.underlying e = some (.int q)) → ∃ v, vs = [v] ∧ (Instr.checkKey em dd e v).run P w = .ok () w) ∧
    ((¬ ∃ q, P.underlying e = some (.int q)) → (Instr.checkKey em dd e (.agg vs.toArray)).run P w = .ok () w)

theorem Ints.sub {vs : List Value} (h : Ints vs) (o n : Nat) : Ints ((vs.drop o).take n) := by
  intro j v hv
  rw [List.getElem?_take] at hv
  split at hv
  · rw [List.getElem?_drop] at hv
    exact h _ v hv
  · cases hv

theorem run_part_check {m : Nat} {e : TypeId} {c : Nat} (hf : flatN P m e = some c) (hz : szIs P e c = true) {em : Bool} {dd : Nat} (ih : CheckRun P em dd e c)
    {vs : List Value} (hi : Ints vs) {off : Nat} (hle : off + c ≤ vs.length) (w : World) :
    ∃ a, (part e vs.toArray off).run P w = .ok a w ∧ (Instr.checkKey em dd e a).run P w = .ok () w := by
  obtain ⟨h1, h2⟩ := ih w ((vs.drop off).take c) (by simp; omega) (hi.sub off c)
  rcases flat_kind hf with ⟨q, hq, rfl⟩ | ⟨d, hd, hag⟩
  · obtain ⟨v, hv, hrun⟩ := h1 ⟨q, hq⟩
    have hv' : vs[off]? = some v := by
      have : ((vs.drop off).take 1)[0]? = some v := by rw [hv]; rfl
      simpa [List.getElem?_take, List.getElem?_drop] using this
    exact ⟨v, by simp [part, isAgg, run_underlying hq, hv'], hrun⟩
  · have hno : ¬ ∃ q, P.underlying e = some (.int q) := by
      rintro ⟨q, hq⟩
      rw [hd] at hq
      simp only [Option.some.injEq] at hq; subst hq
      simp [isAggD] at hag
    have hagr : ∀ w : World, (isAgg e).run P w = .ok true w := by
      intro w
      simp only [isAgg, Sem.run_bind, run_underlying hd, Result.andThen_ok]
      cases d <;> simp [isAggD] at hag <;> rfl
    refine ⟨_, ?_, h2 hno⟩
    simp only [part, Sem.run_bind, hagr w, Result.andThen_ok, if_true, szIs_run hz w, Sem.run_pure]
    congr 2
    apply Array.ext'
    simp [List.extract]

theorem run_checkKey_flat (em : Bool) (d : Nat) : ∀ (m : Nat) (t : TypeId) (n : Nat), flatN P m t = some n → CheckRun P em (d + m) t n
  | 0, _, _, h => by simp [flatN] at h
  | m + 1, t, n, h => by
    intro w vs hv hi
    simp only [flatN] at h
    split at h
    · rename_i q hq
      split at h
      · simp only [Option.some.injEq] at h; subst h
        match vs, hv with
        | [v], _ =>
          obtain ⟨k, a, rfl⟩ := hi 0 v rfl
          refine ⟨fun _ => ⟨_, rfl, ?_⟩, fun hno => absurd ⟨q, hq⟩ hno⟩
          rw [show d + (m + 1) = (d + m) + 1 from rfl]
          simp [Instr.checkKey, run_underlying hq]
      · cases h
    · rename_i k e he
      split at h
      · rename_i c hc
        split at h
        · rename_i hz
          simp only [Option.some.injEq] at h; subst h
          simp only [Bool.and_eq_true] at hz
          have ih := run_checkKey_flat em d m e c hc
          refine ⟨fun ⟨q, hq⟩ => (by rw [he] at hq; simp at hq), fun _ => ?_⟩
          rw [show d + (m + 1) = (d + m) + 1 from rfl, Instr.checkKey]
          simp only [Sem.run_bind, run_underlying he, Result.andThen_ok]
          simp only [Std.Legacy.Range.forIn_eq_forIn_range', Std.Legacy.Range.size, Nat.sub_zero, Nat.add_one_sub_one, Nat.div_one]
          have hall : ∀ i ∈ List.range' 0 k, (i + 1) * c ≤ vs.length := by
            intro i hi'
            have : i < k := by simpa using hi'
            rw [hv]
            exact Nat.mul_le_mul_right c (by omega)
          generalize List.range' 0 k = is at hall
          induction is with
          | nil => simp
          | cons i is ihl =>
            have e2 : (i + 1) * c = i * c + c := by rw [Nat.add_mul, Nat.one_mul]
            obtain ⟨a, h1, h2⟩ := run_part_check hc hz.1 ih hi (off := i * c) (by have := hall i (by simp); omega) w
            simp only [List.forIn_cons, Sem.run_bind, szIs_run hz.1 w, Result.andThen_ok, h1, h2, Sem.run_pure]
            exact ihl (fun j hj => hall j (by simp [hj]))
        · cases h
      · cases h
    · rename_i fs hfs
      split at h
      · cases h
      · split at h
        · rename_i c hc
          split at h
          · simp only [Option.some.injEq] at h; subst h
            refine ⟨fun ⟨q, hq⟩ => (by rw [hfs] at hq; simp at hq), fun _ => ?_⟩
            rw [show d + (m + 1) = (d + m) + 1 from rfl, Instr.checkKey]
            simp only [Sem.run_bind, run_underlying hfs, Result.andThen_ok]
            rw [← Array.forIn_toList]
            have key : ∀ (l : List Field) (off : Nat), flatFs P (flatN P m) off l = some c → c ≤ vs.length →
                off ≤ c ∧ (forIn l PUnit.unit fun f _ => (do if f.name ≠ "_" then do Instr.checkKey em (d + m) f.type (← part f.type vs.toArray f.offset); pure (ForInStep.yield PUnit.unit) else pure (ForInStep.yield PUnit.unit) : Sem (ForInStep PUnit))).run P w = .ok PUnit.unit w := by
              intro l
              induction l with
              | nil => intro off h _; simp only [flatFs, Option.some.injEq] at h; subst h; simp
              | cons fd l ihl =>
                intro off h hle
                simp only [flatFs] at h
                split at h
                · rename_i c' hc'
                  split at h
                  · rename_i hcond
                    simp only [Bool.and_eq_true, Nat.beq_eq, Bool.not_eq_true', beq_eq_false_iff_ne] at hcond
                    obtain ⟨⟨hoff, hz⟩, hname⟩ := hcond
                    obtain ⟨hle', hrest⟩ := ihl (off + c') h hle
                    obtain ⟨a, h1, h2⟩ := run_part_check hc' hz (run_checkKey_flat em d m _ _ hc') hi (off := fd.offset) (by omega) w
                    refine ⟨by omega, ?_⟩
                    simp only [List.forIn_cons, ne_eq, hname, not_false_eq_true, if_true, Sem.run_bind, h1, h2, Result.andThen_ok, Sem.run_pure]
                    exact hrest
                  · cases h
                · cases h
            have := (key fs.toList 0 hc (by omega)).2
            simp at this ⊢
            rw [this]
            rfl
          · cases h
        · cases h
    · cases h

theorem keyOf_spec {n : Nat} {k : AV} {kc : List AV} (h : keyOf n k = some kc) : k = .agg kc ∧ kc.length = n ∧ ∀ c ∈ kc, isInt1 c = true := by
  unfold keyOf at h
  split at h
  · rename_i cs
    split at h
    · rename_i hc
      simp only [Bool.and_eq_true, Nat.beq_eq, List.all_eq_true] at hc
      simp only [Option.some.injEq] at h; subst h
      exact ⟨rfl, hc.1, hc.2⟩
    · cases h
  · cases h

theorem ints_of_RL {kc : List AV} {vs : List Value} (h : RL g kc vs) (hi : ∀ c ∈ kc, isInt1 c = true) : Ints vs := by
  intro j v hv
  have hj : j < kc.length := by rw [RL_len h]; exact (List.getElem?_eq_some_iff.1 hv).1
  obtain ⟨u, hu, hr⟩ := RL_get h j _ (List.getElem?_eq_getElem hj)
  rw [hv] at hu
  simp only [Option.some.injEq] at hu; subst hu
  have := hi _ (List.getElem_mem hj)
  revert this hr
  cases kc[j] <;> simp [isInt1, R]
  intro h; exact ⟨_, _, h⟩

theorem isMapOk_spec {t : TypeId} {n : Nat} {k e : TypeId} (h : isMapOk P t n = some (k, e)) : P.underlying t = some (.map k e) ∧ flatN P maxFlat k = some n ∧ ¬ ∃ q, P.underlying k = some (.int q) := by
  unfold isMapOk at h
  split at h
  · rename_i k' e' hu
    split at h
    · rename_i hc
      simp only [Option.some.injEq, Prod.mk.injEq] at h
      obtain ⟨rfl, rfl⟩ := h
      exact ⟨hu, flat_agg hc⟩
    · cases h
  · cases h

theorem run_checkKey_ok {kt : TypeId} {n : Nat} (hf : flatN P maxFlat kt = some n) (hno : ¬ ∃ q, P.underlying kt = some (.int q)) {kc : List AV} {vs : List Value}
    (hr : RL g kc vs) (hl : kc.length = n) (hi : ∀ c ∈ kc, isInt1 c = true) (em : Bool) (w : World) : (Instr.checkKey em 10000 kt (.agg vs.toArray)).run P w = .ok () w :=
  (run_checkKey_flat em 9992 maxFlat kt n hf w vs (by rw [← RL_len hr]; exact hl) (ints_of_RL hr hi)).2 hno

/-- finding a key in a map's entries -/
theorem run_findAsking_ok {kt : TypeId} {n : Nat} (hf : flatN P maxFlat kt = some n) (hno : ¬ ∃ q, P.underlying kt = some (.int q)) {kc : List AV} {kv : List Value}
    (hr : RL g kc kv) (hl : kc.length = n) (w : World) : ∀ (es : List MapEntry) (ks : List AV) (i : Nat) (r : Option Nat),
    ks.length = es.length → (∀ (j : Nat) (e : MapEntry), es[j]? = some e → ∃ k kn c, ks[j]? = some k ∧ R g k e.key ∧ keyOf kn k = some c) →
    findV kc ks i = some r →
    match r with
    | some j => ∃ e, i ≤ j ∧ es[j - i]? = some e ∧ (Instr.findAsking kt (.agg kv.toArray) es i).run P w = .ok (some (j, e.val)) w ∧ ∃ x, ks[j - i]? = some (.agg x) ∧ eqCells kc x = some true
    | none => (Instr.findAsking kt (.agg kv.toArray) es i).run P w = .ok none w
  | [], [], i, r, _, _, h => by
    simp only [findV, Option.some.injEq] at h; subst h
    simp [Instr.findAsking]
  | [], _ :: _, _, _, hlen, _, _ => by simp at hlen
  | _ :: _, [], _, _, hlen, _, _ => by simp at hlen
  | e :: es, k :: ks, i, r, hlen, hks, h => by
    obtain ⟨k', kn, c, hk', hkr, hko⟩ := hks 0 e rfl
    simp only [List.getElem?_cons_zero, Option.some.injEq] at hk'; subst hk'
    obtain ⟨rfl, _, _⟩ := keyOf_spec hko
    simp only [R] at hkr
    obtain ⟨us, hus, hur⟩ := hkr
    simp only [findV] at h
    split at h
    · rename_i heq
      simp only [Option.some.injEq] at h; subst h
      have he := run_equal_flat hf hno hr hur hl heq w
      refine ⟨e, Nat.le_refl _, by simp, ?_, c, by simp, heq⟩
      simp [Instr.findAsking, hus, he]
    · rename_i heq
      have he := run_equal_flat hf hno hr hur hl heq w
      have ih := run_findAsking_ok hf hno hr hl w es ks (i + 1) r (by simpa using hlen) (fun j e' hj => by simpa using hks (j + 1) e' (by simpa using hj)) h
      cases r with
      | none =>
        simp only at ih ⊢
        simp [Instr.findAsking, hus, he, ih]
      | some j =>
        simp only at ih ⊢
        obtain ⟨e', h1, h2, h3, x, h4, h5⟩ := ih
        refine ⟨e', by omega, ?_, by simp [Instr.findAsking, hus, he, h3], x, ?_, h5⟩
        · rw [show j - i = (j - (i + 1)) + 1 by omega]; simpa using h2
        · rw [show j - i = (j - (i + 1)) + 1 by omega]; simpa using h4
    · cases h

theorem agg_wide {kt : TypeId} {n : Nat} (hf : flatN P maxFlat kt = some n) (hno : ¬ ∃ q, P.underlying kt = some (.int q)) :
    (match P.underlying kt with | some (.array _ _) | some (.struct _) => true | _ => false) = true := by
  rcases flat_kind hf with ⟨q, hq, _⟩ | ⟨d, hd, hag⟩
  · exact absurd ⟨q, hq⟩ hno
  · rw [hd]; cases d <;> simp [isAggD] at hag <;> rfl

theorem run_findKey_ok {kt : TypeId} {n : Nat} (hf : flatN P maxFlat kt = some n) (hno : ¬ ∃ q, P.underlying kt = some (.int q)) {kc : List AV} {kv : List Value}
    (hr : RL g kc kv) (hl : kc.length = n) (w : World) {es : Array MapEntry} {ks vs : List AV} (he : Entries g es ks vs) {r : Option Nat} (h : findV kc ks 0 = some r) :
    match r with
    | some j => ∃ e, es[j]? = some e ∧ (Instr.findKey kt (.agg kv.toArray) es.toList).run P w = .ok (some (j, e.val)) w ∧ ∃ x, ks[j]? = some (.agg x) ∧ eqCells kc x = some true
    | none => (Instr.findKey kt (.agg kv.toArray) es.toList).run P w = .ok none w := by
  have := run_findAsking_ok (g := g) hf hno hr hl w es.toList ks 0 r (by simpa using he.1) (fun j e hj => by
    obtain ⟨_, h1, _⟩ := he.2.2 j e (by simpa using hj)
    exact h1) h
  rw [run_findKey_eq w (agg_wide hf hno)]
  cases r with
  | none => exact this
  | some j =>
    obtain ⟨e, _, h2, h3, x, h4, h5⟩ := this
    exact ⟨e, by simpa using h2, h3, x, by simpa using h4, h5⟩

/-! ## The operations that touch no memory -/

theorem evs_map (t : T) : ∀ l : List Opd, evs t l = l.map (Opd.ev t)
  | [] => rfl
  | x :: xs => by simp [evs, evs_map t xs]

theorem inert_ok {o : Oper} {ao : AOp} {t : T} {a : Act} {w : World} (hag : agOp P o.op ao = true) (ht : TOn g t a.tmps ao.uses) (hf : Fixed g w) {v : AV} (hv : inertV t ao = some v) :
    ∃ cv, (execOp a.eval o).run P w = .ok (.value cv) w ∧ R g v cv := by
  obtain ⟨dst, op, ty, pos, after, guard⟩ := o
  simp only at hag
  cases ao <;> simp only [inertV, reduceCtorEq] at hv <;> simp only [agOp] at hag
  case mov y =>
    simp only [Option.some.injEq] at hv; subst hv
    split at hag
    · exact ⟨_, by simp [execOp], agOpd_R hag ht⟩
    · exact ⟨_, by simp [execOp], agOpd_R hag ht⟩
    · cases hag
  case pick c x y =>
    split at hag
    · simp only [Bool.and_eq_true] at hag
      obtain ⟨⟨hc, hx⟩, hy⟩ := hag
      have hcr := agOpd_R hc (ht.sub (fun n hn => by simp only [AOp.uses, List.mem_append]; exact .inl (.inl hn)))
      split at hv
      · rename_i hcv
        simp only [Option.some.injEq] at hv; subst hv
        rw [hcv] at hcr
        simp only [R] at hcr
        exact ⟨_, by simp [execOp, hcr, asBool], agOpd_R hx (ht.sub (fun n hn => by simp only [AOp.uses, List.mem_append]; exact .inl (.inr hn)))⟩
      · rename_i hcv
        simp only [Option.some.injEq] at hv; subst hv
        rw [hcv] at hcr
        simp only [R] at hcr
        exact ⟨_, by simp [execOp, hcr, asBool], agOpd_R hy (ht.sub (fun n hn => by simp only [AOp.uses, List.mem_append]; exact .inr hn))⟩
      · cases hv
    · cases hag
  case build zero ps =>
    split at hag
    · rename_i t0 parts
      simp only [Bool.and_eq_true] at hag
      obtain ⟨hz, hp⟩ := hag
      obtain ⟨z, hzr, hzl, _⟩ := zeroOk_spec (g := g) hz
      split at hv
      · rename_i cs hcs
        simp only [Option.some.injEq] at hv; subst hv
        split at hp
        · rename_i fs hfs
          simp only [Bool.and_eq_true] at hp
          have hplaces : ∀ (l : List Field), (l.all fun f => (P.info? f.type).isSome) = true → ∃ ps : List (Nat × Nat), (l.mapM (fun f => (do pure (f.offset, ← sizeOf f.type) : Sem (Nat × Nat)))).run P w = .ok ps w ∧
              ∀ i : Nat, ps[i]? = match l[i]? with | some f => (match P.info? f.type with | some j => some (f.offset, j.size) | none => none) | none => none := by
            intro l
            induction l with
            | nil => intro _; exact ⟨[], by simp, by simp⟩
            | cons f l ih =>
              intro hall
              simp only [List.all_cons, Bool.and_eq_true] at hall
              obtain ⟨ps, h1, h2⟩ := ih hall.2
              obtain ⟨j, hj⟩ := Option.isSome_iff_exists.1 hall.1
              refine ⟨(f.offset, j.size) :: ps, ?_, ?_⟩
              · rw [List.mapM_cons]
                simp only [Sem.run_bind, run_sizeOf w hj, Result.andThen_ok, Sem.run_pure, h1]
                simp [Program.cellsOf, hj]
              · intro i
                cases i with
                | zero => simp [hj]
                | succ i => simpa using h2 i
          obtain ⟨pl, hpl1, hpl2⟩ := hplaces fs.toList hp.1
          have hplace : ∀ i, (pl.toArray)[i]? = fieldsPlace P fs i := by
            intro i
            have h2 := hpl2 i
            simp only [Array.getElem?_toList] at h2
            unfold fieldsPlace
            rw [List.getElem?_toArray, h2]
            cases fs[i]? with
            | none => rfl
            | some f => cases P.info? f.type <;> rfl
          obtain ⟨us, hu, hru⟩ := fill_R (g := g) (fieldsPlace P fs) (a := a) hp.2 (by simpa [AOp.uses] using ht) hzl hcs
          refine ⟨.agg us.toArray, ?_, by simp only [R]; exact ⟨us, rfl, hru⟩⟩
          have hfill : Instr.fill (fun i => pl.toArray[i]?) z.cells (parts.map fun (i, x) => (i, a.eval x)).toList = some us.toArray := by
            have e : (fun i => pl.toArray[i]?) = fieldsPlace P fs := funext hplace
            rw [e]
            simpa using hu
          simp only [execOp, Instr.build, Sem.run_bind, hzr w, Result.andThen_ok, run_underlying hfs, Array.mapM_eq_mapM_toList, hpl1, Sem.run_map, Sem.run_pure]
          simp only [hfill, Sem.run_pure, Result.andThen_ok]
        · rename_i n e he
          split at hp
          · rename_i i hi
            obtain ⟨us, hu, hru⟩ := fill_R (g := g) (fun j => some (j * i.size, i.size)) (a := a) hp (by simpa [AOp.uses] using ht) hzl hcs
            refine ⟨.agg us.toArray, ?_, by simp only [R]; exact ⟨us, rfl, hru⟩⟩
            have hfill : Instr.fill (fun j => some (j * P.cellsOf e, P.cellsOf e)) z.cells (parts.map fun (i, x) => (i, a.eval x)).toList = some us.toArray := by
              have : P.cellsOf e = i.size := by simp [Program.cellsOf, hi]
              rw [this]
              simpa using hu
            simp only [execOp, Instr.build, Sem.run_bind, hzr w, Result.andThen_ok, run_underlying he, run_sizeOf w hi, hfill, Sem.run_pure]
          · cases hp
        · cases hp
      · cases hv
    · cases hag
  case loadT sh y =>
    split at hag
    · simp only [Bool.and_eq_true] at hag
      obtain ⟨hsh, hx⟩ := hag
      have hr := agOpd_R hx ht
      cases hy : Opd.ev t y with
      | tptr x =>
        rw [hy] at hr hv
        simp only [R] at hr
        obtain ⟨b, o, hp, hi⟩ := hr
        obtain ⟨cv, h1, h2⟩ := run_loadFixed hsh hf hi hv
        exact ⟨cv, by simp [execOp, hp, Instr.loadAt, Instr.sureAddr, h1], h2⟩
      | _ => rw [hy] at hv; cases sh <;> simp [loadTV] at hv
    · cases hag
  case bin b et x y =>
    split at hag
    · rename_i b' t0 x' y' yt
      simp only [Bool.and_eq_true, decide_eq_true_eq] at hag
      obtain ⟨⟨⟨rfl, het⟩, hx⟩, hy⟩ := hag
      have hxr := agOpd_R hx (ht.sub (fun n hn => by simp only [AOp.uses, List.mem_append]; exact .inl hn))
      have hyr := agOpd_R hy (ht.sub (fun n hn => by simp only [AOp.uses, List.mem_append]; exact .inr hn))
      generalize Opd.ev t x = xa at *
      generalize Opd.ev t y = ya at *
      simp only [execOp]
      generalize a.eval x' = xv at *
      generalize a.eval y' = yv at *
      have fin : ∀ {cv : Value}, (do eqGuard b' t0 x' y' xv yv; binOp b' t0 xv yv : Sem Value).run P w = .ok cv w → R g v cv →
          ∃ cv, (do pure (Next.value (← (do eqGuard b' t0 x' y' xv yv; binOp b' t0 xv yv : Sem Value))) : Sem Next).run P w = .ok (.value cv) w ∧ R g v cv := by
        intro cv h1 h2
        refine ⟨cv, ?_, h2⟩
        simp only [Sem.run_bind] at h1 ⊢
        rw [h1]
        rfl
      cases xa <;> cases ya <;> (try simp only [binV, reduceCtorEq] at hv)
      case int.int k n k' n' =>
        simp only [R] at hxr hyr; subst hxr hyr
        obtain ⟨cv, h1, h2⟩ := binOp_int (g := g) (et := et) (r := v) (by simpa [binV] using hv) t0 x' y' w
        exact fin h1 h2
      case bool.bool p q =>
        simp only [R] at hxr hyr; subst hxr hyr
        split at hv
        · rename_i he1
          rw [Nat.beq_eq] at he1; subst he1
          have hub : P.underlying t0 = some .bool := by
            simp only [eqTyOk] at het
            split at het
            · assumption
            · cases het
          split at hv
          · simp only [Option.some.injEq] at hv; subst hv
            exact fin (by simp [eqGuard, run_eql_bool w t0 p q hub]) R_bool
          · simp only [Option.some.injEq] at hv; subst hv
            exact fin (by simp [eqGuard, run_neq_bool w t0 p q hub]) R_bool
          · cases hv
        · cases hv
      case agg.agg xs ys =>
        simp only [R] at hxr hyr
        obtain ⟨vs, rfl, hvs⟩ := hxr
        obtain ⟨us, rfl, hus⟩ := hyr
        split at hv
        · rename_i n
          simp only [eqTyOk, Bool.and_eq_true, Bool.not_eq_true'] at het
          obtain ⟨hfl, heg⟩ := het
          obtain ⟨hf1, hno⟩ := flat_agg hfl
          split at hv
          · rename_i hlen
            simp only [Bool.and_eq_true, Nat.beq_eq] at hlen
            split at hv
            · rename_i r hr
              simp only [Option.some.injEq] at hv; subst hv
              have he := run_equal_flat hf1 hno hvs hus hlen.1 hr w
              exact fin (by simp [eqGuard, heg, binOp, he]) R_bool
            · rename_i r hr
              simp only [Option.some.injEq] at hv; subst hv
              have he := run_equal_flat hf1 hno hvs hus hlen.1 hr w
              exact fin (by simp [eqGuard, heg, binOp, he]) R_bool
            · cases hv
          · cases hv
        · cases hv
    · cases hag
  case un u x =>
    split at hag
    · simp only [Bool.and_eq_true, decide_eq_true_eq] at hag
      obtain ⟨rfl, hx⟩ := hag
      have hr := agOpd_R hx ht
      generalize Opd.ev t x = xa at *
      unfold unV at hv
      split at hv
      · simp only [Option.some.injEq] at hv; subst hv
        simp only [R] at hr
        exact ⟨_, by simp [execOp, hr, Op.unary, Op.intArith], R_int⟩
      · simp only [intBin, Option.some.injEq] at hv; subst hv
        simp only [R] at hr
        exact ⟨_, by simp only [execOp, hr, Op.unary, Op.intBits, Sem.run_bind, Sem.run_pure, Result.andThen_ok], R_int⟩
      · simp only [Option.some.injEq] at hv; subst hv
        simp only [R] at hr
        exact ⟨_, by simp [execOp, hr, Op.unary], R_bool⟩
      · cases hv
    · cases hag
  case conv k x =>
    split at hag
    · simp only [Bool.and_eq_true, beq_iff_eq] at hag
      obtain ⟨⟨hs, hd⟩, hx⟩ := hag
      have hr := agOpd_R hx ht
      obtain ⟨sd, hsd⟩ := Option.isSome_iff_exists.1 hs
      unfold isInt at hd
      split at hd
      · rename_i k' hk'
        simp only [Option.some.injEq] at hd; subst hd
        split at hv
        · rename_i kx n hxv
          simp only [Option.some.injEq] at hv; subst hv
          rw [hxv] at hr
          simp only [R] at hr
          exact ⟨_, by simp [execOp, hr, convert, run_underlying hsd, run_underlying hk', Conv.intToInt], R_int⟩
        · cases hv
      · cases hd
    · cases hag
  case mkFn f fi ca =>
    simp only [Option.some.injEq] at hv; subst hv
    split at hag
    · simp only [Bool.and_eq_true, Nat.beq_eq] at hag
      obtain ⟨⟨rfl, h1⟩, h2⟩ := hag
      refine ⟨_, by simp only [execOp, Instr.makeFunc, Sem.run_bind, Sem.run_pure, Result.andThen_ok]; rfl, ?_⟩
      simp only [R]
      refine ⟨_, _, ?_, agOpds_RL h1 (ht.sub (fun n hn => by simp only [AOp.uses, List.mem_append]; exact .inl hn)), agOpds_RL h2 (ht.sub (fun n hn => by simp only [AOp.uses, List.mem_append]; exact .inr hn))⟩
      rw [← Array.toList_map, ← Array.toList_map, Array.toArray_toList, Array.toArray_toList]
    · cases hag
  case slice sh x lo hi mx =>
    split at hag
    · rename_i t0 x' lo' hi' mx'
      simp only [Bool.and_eq_true] at hag
      obtain ⟨⟨⟨⟨he, hx⟩, h1⟩, h2⟩, h3⟩ := hag
      split at he
      · rename_i e hel
        have hxr := agOpd_R hx (ht.sub (fun n hn => by simp only [AOp.uses, List.mem_append]; exact .inl (.inl (.inl hn))))
        have t1 : TOn g t a.tmps (useO lo) := ht.sub (fun n hn => by simp only [AOp.uses, List.mem_append]; exact .inl (.inl (.inr hn)))
        have t2 : TOn g t a.tmps (useO hi) := ht.sub (fun n hn => by simp only [AOp.uses, List.mem_append]; exact .inl (.inr hn))
        have t3 : TOn g t a.tmps (useO mx) := ht.sub (fun n hn => by simp only [AOp.uses, List.mem_append]; exact .inr hn)
        have sh' : ∀ {x : Option Operand} {y : Option Opd}, agOpt x y = true → (x.map a.eval).isSome = (ev? t y).isSome := by
          intro x y h
          cases x <;> cases y <;> first | rfl | (simp only [agOpt, Bool.false_eq_true] at h)
        obtain ⟨cv, h4, h5⟩ := run_slice_ok hel he hxr (fun n hn => (optNat_R h1 t1 hn).1) (fun d n hn => (optNat_R h2 t2 hn).1) (fun d n hn => (optNat_R h3 t3 hn).1) (sh' h2) (sh' h3) hv w (t := t0)
        exact ⟨cv, by simp [execOp, h4], h5⟩
      · cases he
    · cases hag
  case fldA off sh x =>
    split at hag
    · rename_i t0 x' f
      simp only [Bool.and_eq_true] at hag
      obtain ⟨h1, hx⟩ := hag
      have hr := agOpd_R hx ht
      split at h1
      · rename_i fs hfs
        split at h1
        · rename_i fd hfd
          simp only [Bool.and_eq_true, Nat.beq_eq] at h1
          obtain ⟨rfl, hsh⟩ := h1
          split at hv
          · rename_i k ver o hxv
            simp only [Option.some.injEq] at hv; subst hv
            rw [hxv] at hr
            simp only [R] at hr
            obtain ⟨b, size, hi, hp⟩ := hr
            exact ⟨.pointer (some ⟨b, o + fd.offset, none⟩), by simp [execOp, run_fldA_ok hfs hfd hsh hp w], by simp only [R]; exact ⟨b, size, hi, rfl⟩⟩
          · rename_i cs hxv
            split at hv
            · rename_i y hy
              simp only [Option.some.injEq] at hv; subst hv
              rw [hxv] at hr
              simp only [R] at hr
              obtain ⟨b, o, hp, him⟩ := hr
              exact ⟨.pointer (some ⟨b, o + fd.offset, none⟩), by simp [execOp, run_fldA_ok hfs hfd hsh hp w], by simp only [R]; exact ⟨b, _, rfl, part_tptr hy him (him.scalars hf)⟩⟩
            · cases hv
          · cases hv
        · cases h1
      · cases h1
    · cases hag
  case fld off sh x =>
    split at hag
    · rename_i t0 x' f
      simp only [Bool.and_eq_true] at hag
      obtain ⟨h1, hx⟩ := hag
      have hr := agOpd_R hx ht
      split at h1
      · rename_i fs hfs
        split at h1
        · rename_i fd hfd
          simp only [Bool.and_eq_true, Nat.beq_eq] at h1
          obtain ⟨rfl, hsh⟩ := h1
          split at hv
          · rename_i cs hxv
            rw [hxv] at hr
            simp only [R] at hr
            obtain ⟨vs, hvs, hl⟩ := hr
            obtain ⟨cv, h2, h3⟩ := run_part_sh hsh hl hv w
            exact ⟨cv, by simp [execOp, Instr.field, run_underlying hfs, hfd, hvs, asAgg, h2], h3⟩
          · cases hv
        · cases h1
      · cases h1
    · cases hag
  case idxS sh x i =>
    split at hag
    · rename_i t0 x' i'
      simp only [Bool.and_eq_true] at hag
      obtain ⟨⟨he, hx⟩, hi⟩ := hag
      split at he
      · rename_i e hel
        have hxr := agOpd_R hx (ht.sub (fun n hn => by simp only [AOp.uses, List.mem_append]; exact .inl hn))
        have hir := agOpd_R hi (ht.sub (fun n hn => by simp only [AOp.uses, List.mem_append]; exact .inr hn))
        obtain ⟨cv, h1, h2⟩ := run_idxS_ok hel he hxr hir hv w
        exact ⟨cv, by simp [execOp, h1], h2⟩
      · cases he
    · cases hag
  case idxA n sh x i =>
    split at hag
    · rename_i t0 x' i'
      simp only [Bool.and_eq_true] at hag
      obtain ⟨⟨he, hx⟩, hi⟩ := hag
      split at he
      · rename_i m e hel
        simp only [Bool.and_eq_true, Nat.beq_eq] at he
        obtain ⟨rfl, hsh⟩ := he
        have hxr := agOpd_R hx (ht.sub (fun n hn => by simp only [AOp.uses, List.mem_append]; exact .inl hn))
        have hir := agOpd_R hi (ht.sub (fun n hn => by simp only [AOp.uses, List.mem_append]; exact .inr hn))
        obtain ⟨cv, h1, h2⟩ := run_idxA_ok hel hsh hf hxr hir hv
        exact ⟨cv, by simp [execOp, h1], h2⟩
      · cases he
    · cases hag
  case idx n sh x i =>
    split at hag
    · rename_i t0 x' i'
      simp only [Bool.and_eq_true] at hag
      obtain ⟨⟨he, hx⟩, hi⟩ := hag
      split at he
      · rename_i m e hel
        simp only [Bool.and_eq_true, Nat.beq_eq] at he
        obtain ⟨rfl, hsh⟩ := he
        obtain ⟨hz, h0, _⟩ := shOk_spec hsh
        have hxr := agOpd_R hx (ht.sub (fun n hn => by simp only [AOp.uses, List.mem_append]; exact .inl hn))
        have hir := agOpd_R hi (ht.sub (fun n hn => by simp only [AOp.uses, List.mem_append]; exact .inr hn))
        split at hv
        · rename_i cs i0 hcs hi0
          split at hv
          · rename_i hlt
            rw [Nat.blt_eq] at hlt
            rw [hcs] at hxr
            simp only [R] at hxr
            obtain ⟨vs, hvs, hl⟩ := hxr
            obtain ⟨k, hk⟩ := R_nat hi0 hir
            obtain ⟨cv, h2, h3⟩ := run_part_sh hsh hl hv w
            refine ⟨cv, ?_, h3⟩
            simp only [execOp, Instr.index, hk, asIntOf, Sem.run_bind, Sem.run_pure, Result.andThen_ok, run_underlying hel, hvs]
            rw [Sem.run_ite, if_pos ⟨by omega, by omega⟩]
            simp [szIs_run hz w, h2]
          · cases hv
        · cases hv
      · cases he
    · cases hag
  case idxStr x i =>
    split at hag
    · rename_i t0 x' i'
      simp only [Bool.and_eq_true] at hag
      obtain ⟨⟨he, hx⟩, hi⟩ := hag
      have hxr := agOpd_R hx (ht.sub (fun n hn => by simp only [AOp.uses, List.mem_append]; exact .inl hn))
      have hir := agOpd_R hi (ht.sub (fun n hn => by simp only [AOp.uses, List.mem_append]; exact .inr hn))
      split at he
      · rename_i hus
        split at hv
        · rename_i s i0 hs hi0
          split at hv
          · rename_i b hb
            simp only [Option.some.injEq] at hv; subst hv
            rw [hs] at hxr
            simp only [R] at hxr
            obtain ⟨k, hk⟩ := R_nat hi0 hir
            refine ⟨_, ?_, R_int⟩
            simp only [execOp, Instr.index, hk, asIntOf, Sem.run_bind, Sem.run_pure, Result.andThen_ok, run_underlying hus, hxr]
            have h0 : (0 : Int) ≤ (i0 : Int) := by omega
            simp [hb]
          · cases hv
        · cases hv
      · cases he
    · cases hag
  case ext i x =>
    split at hag
    · rename_i x' i'
      simp only [Bool.and_eq_true, Nat.beq_eq] at hag
      obtain ⟨rfl, hx⟩ := hag
      have hr := agOpd_R hx ht
      split at hv
      · rename_i vs hvs
        rw [hvs] at hr
        simp only [R] at hr
        obtain ⟨us, hus, hl⟩ := hr
        obtain ⟨u, hu, hur⟩ := RL_get hl i' v hv
        exact ⟨u, by simp [execOp, Instr.extract, hus, hu], hur⟩
      · cases hv
    · cases hag
  case lenA n =>
    simp only [Option.some.injEq] at hv; subst hv
    split at hag
    · rename_i as ts
      split at hag
      · rename_i x t0 has hts
        split at hag
        · rename_i m e hu
          rw [Nat.beq_eq] at hag; subst hag
          have has' : as = #[x] := by
            apply Array.ext'; simpa using has
          subst has'
          exact ⟨_, by simp [execOp, resolve, invoke, builtin, Builtin.len_, hts, run_underlying hu, goInt], R_int⟩
        · cases hag
      · cases hag
    · cases hag
  case len x =>
    split at hag
    · rename_i as ts
      split at hag
      · rename_i x' t0 has hts
        simp only [Bool.and_eq_true] at hag
        obtain ⟨he, hx⟩ := hag
        obtain ⟨e, he⟩ := Option.isSome_iff_exists.1 he
        have hu := sliceElem_spec he
        have has' : as = #[x'] := by
          apply Array.ext'; simpa using has
        subst has'
        have hr := agOpd_R hx ht
        split at hv
        · rename_i lim xs hxs
          simp only [Option.some.injEq] at hv; subst hv
          rw [hxs] at hr
          simp only [R] at hr
          obtain ⟨ad, c, hsl, _⟩ := hr
          exact ⟨_, by simp [execOp, resolve, invoke, builtin, Builtin.len_, hts, run_underlying hu, hsl, goInt], R_int⟩
        · rename_i k ver off len n ag hxs
          simp only [Option.some.injEq] at hv; subst hv
          rw [hxs] at hr
          simp only [R] at hr
          rcases hr with ⟨_, _, rfl, hsl⟩ | ⟨b, size, c, _, hsl, _⟩
          · exact ⟨_, by simp [execOp, resolve, invoke, builtin, Builtin.len_, hts, run_underlying hu, hsl, goInt], R_int⟩
          · exact ⟨_, by simp [execOp, resolve, invoke, builtin, Builtin.len_, hts, run_underlying hu, hsl, goInt], R_int⟩
        · cases hv
      · cases hag
    · cases hag
  case cap x =>
    split at hag
    · rename_i as ts
      split at hag
      · rename_i x' t0 has hts
        simp only [Bool.and_eq_true] at hag
        obtain ⟨he, hx⟩ := hag
        obtain ⟨e, he⟩ := Option.isSome_iff_exists.1 he
        have hu := sliceElem_spec he
        have has' : as = #[x'] := by
          apply Array.ext'; simpa using has
        subst has'
        have hr := agOpd_R hx ht
        split at hv
        · rename_i xs hxs
          simp only [Option.some.injEq] at hv; subst hv
          rw [hxs] at hr
          simp only [R] at hr
          obtain ⟨ad, c, hsl, _, hlim, _⟩ := hr
          have hc := hlim trivial
          subst hc
          exact ⟨_, by simp [execOp, resolve, invoke, builtin, Builtin.cap_, hts, run_underlying hu, hsl, goInt], R_int⟩
        · cases hv
      · cases hag
    · cases hag
  case max l =>
    split at hag
    · rename_i as ts
      have hr := agOpds_RL (g := g) (a := a) hag ht
      obtain ⟨cv, h1, h2⟩ := run_max_ok (P := P) hr hv ts ty w
      refine ⟨cv, ?_, h2⟩
      have e : (as.toList.map a.eval).toArray = as.map a.eval := by rw [← Array.toList_map, Array.toArray_toList]
      rw [e] at h1
      simp [execOp, resolve, invoke, builtin, h1]
    · cases hag
  case min l =>
    split at hag
    · rename_i as ts
      have hr := agOpds_RL (g := g) (a := a) hag ht
      obtain ⟨cv, h1, h2⟩ := run_min_ok (P := P) hr hv ts ty w
      refine ⟨cv, ?_, h2⟩
      have e : (as.toList.map a.eval).toArray = as.map a.eval := by rw [← Array.toList_map, Array.toArray_toList]
      rw [e] at h1
      simp [execOp, resolve, invoke, builtin, h1]
    · cases hag
  case nilchk x =>
    split at hag
    · have hr := agOpd_R hag ht
      split at hv
      · rename_i k ver o hxv
        simp only [Option.some.injEq] at hv; subst hv
        rw [hxv] at hr
        have hr' := hr
        simp only [R] at hr
        obtain ⟨b, size, _, hp⟩ := hr
        exact ⟨_, by simp only [execOp, hp]; rfl, (by rw [hp] at hr'; exact hr')⟩
      · rename_i y hxv
        simp only [Option.some.injEq] at hv; subst hv
        rw [hxv] at hr
        have hr' := hr
        simp only [R] at hr
        obtain ⟨b, o, hp, _⟩ := hr
        exact ⟨_, by simp only [execOp, hp]; rfl, (by rw [hp] at hr'; exact hr')⟩
      · rename_i f p q hxv
        simp only [Option.some.injEq] at hv; subst hv
        rw [hxv] at hr
        have hr' := hr
        simp only [R] at hr
        obtain ⟨x1, y1, hp, _⟩ := hr
        exact ⟨_, by simp only [execOp, hp]; rfl, (by rw [hp] at hr'; exact hr')⟩
      · cases hv
    · cases hag

end Go.Va
/-! How memory changes: one object at a time. Reading memory. -/
namespace Go.Va

variable {P : Program} {g g' : G}

/-- a later ghost: all that was known is known -/
structure Full (g g' : G) : Prop where
  imm : ∀ b o a, g.imm b o = some a → g'.imm b o = some a
  immM : ∀ b x, g.immM b = some x → g'.immM b = some x
  inj : ∀ k ver p, g.inj k ver = some p → g'.inj k ver = some p

theorem Full.refl (g : G) : Full g g := ⟨fun _ _ _ h => h, fun _ _ h => h, fun _ _ _ h => h⟩

theorem Full.ext (h : Full g g') (c : Nat) : Ext c g g' := ⟨h.imm, h.immM, fun k v p _ => h.inj k v p⟩

theorem Full.same (h : Full g g') : SameImm g g' := ⟨h.imm, h.immM⟩

mutual
theorem under_mono {c c' : Nat} (hc : c ≤ c') : ∀ {a : AV}, AV.under c a = true → AV.under c' a = true
  | .bot, _ | .bool _, _ | .int _ _, _ | .str _, _ | .nilF, _ | .nilP, _ | .nilM, _ | .tptr _, _ | .slT _ _, _ | .mapT _ _, _ => rfl
  | .agg cs, h | .tup cs, h => by simp only [AV.under] at h ⊢; exact unders_mono hc h
  | .func f a b, h => by simp only [AV.under, Bool.and_eq_true] at h ⊢; exact ⟨unders_mono hc h.1, unders_mono hc h.2⟩
  | .ptr .., h | .slR .., h | .mapR _, h => by simp only [AV.under, Nat.blt_eq] at h ⊢; omega
theorem unders_mono {c c' : Nat} (hc : c ≤ c') : ∀ {cs : List AV}, AV.unders c cs = true → AV.unders c' cs = true
  | [], _ => rfl
  | a :: cs, h => by simp only [AV.unders, Bool.and_eq_true] at h ⊢; exact ⟨under_mono hc h.1, unders_mono hc h.2⟩
end

mutual
theorem some_under : ∀ a : AV, ∃ c, AV.under c a = true
  | .bot | .bool _ | .int _ _ | .str _ | .nilF | .nilP | .nilM | .tptr _ | .slT _ _ | .mapT _ _ => ⟨0, rfl⟩
  | .agg cs | .tup cs => some_unders cs
  | .func f a b => by
    obtain ⟨c, h1⟩ := some_unders a
    obtain ⟨d, h2⟩ := some_unders b
    refine ⟨c + d, ?_⟩
    simp only [AV.under, Bool.and_eq_true]
    exact ⟨unders_mono (by omega) h1, unders_mono (by omega) h2⟩
  | .ptr k _ _ | .slR k _ _ _ _ _ | .mapR k => ⟨k + 1, by simp [AV.under]⟩
theorem some_unders : ∀ cs : List AV, ∃ c, AV.unders c cs = true
  | [] => ⟨0, rfl⟩
  | a :: cs => by
    obtain ⟨c, h1⟩ := some_under a
    obtain ⟨d, h2⟩ := some_unders cs
    refine ⟨c + d, ?_⟩
    simp only [AV.unders, Bool.and_eq_true]
    exact ⟨under_mono (by omega) h1, unders_mono (by omega) h2⟩
end

theorem Full.R (h : Full g g') {a : AV} {v : Value} (hr : Va.R g a v) : Va.R g' a v := by
  obtain ⟨c, hc⟩ := some_under a
  exact R_mono (h.ext c) hc hr

theorem Full.RL (h : Full g g') {cs : List AV} {vs : List Value} (hr : Va.RL g cs vs) : Va.RL g' cs vs := by
  obtain ⟨c, hc⟩ := some_unders cs
  exact RL_mono (h.ext c) hc hr

/-! ## Objects under change -/

theorem RowAt.lt {w : World} {b s : Nat} {cs : List AV} (h : RowAt g w b s cs) : b < w.heap.size := by
  obtain ⟨C, el, h1, _⟩ := h
  exact (Array.getElem?_eq_some_iff.1 h1).1

theorem RowAt.mono {w w' : World} {b s : Nat} {cs : List AV} (h : RowAt g w b s cs) (hf : Full g g') (hh : w'.heap[b]? = w.heap[b]?) : RowAt g' w' b s cs := by
  obtain ⟨C, el, h1, h2, h3, h4⟩ := h
  exact ⟨C, el, by rw [hh, h1], h2, h3, fun j c hc => let ⟨v, a, b, d⟩ := h4 j c hc; ⟨v, a, hf.R b, d⟩⟩

theorem Entries.mono {es : Array MapEntry} {ks vs : List AV} (h : Entries g es ks vs) (hf : Full g g') : Entries g' es ks vs := by
  refine ⟨h.1, h.2.1, fun i e he => ?_⟩
  obtain ⟨h1, ⟨k, kn, kc, h2, h3, h4⟩, v, h5, h6, h7⟩ := h.2.2 i e he
  exact ⟨h1, ⟨k, kn, kc, h2, hf.R h3, h4⟩, v, h5, hf.R h6, h7⟩

theorem ObjOk.mono {w w' : World} {k : Nat} {o : Obj} (h : ObjOk g w k o) (hf : Full g g') (hh : ∀ b s, g.inj k o.ver = some (.at b s) → w'.heap[b]? = w.heap[b]?) : ObjOk g' w' k o := by
  cases o with
  | arr ver var cs =>
    rcases h with ⟨h1, h2⟩ | ⟨b, s, h1, h2⟩
    · exact .inl ⟨hf.inj _ _ _ h1, h2⟩
    · exact .inr ⟨b, s, hf.inj _ _ _ h1, h2.mono hf (hh b s h1)⟩
  | map ks vs =>
    obtain ⟨b, s, es, h1, h2, h3⟩ := h
    exact ⟨b, s, es, hf.inj _ _ _ h1, by rw [hh b s h1, h2], h3.mono hf⟩

theorem ObjOk.lt {w : World} {k b s : Nat} {o : Obj} (h : ObjOk g w k o) (hi : g.inj k o.ver = some (.at b s)) : b < w.heap.size := by
  cases o with
  | arr ver var cs =>
    rcases h with ⟨h1, h2⟩ | ⟨b', s', h1, h2⟩
    · simp only [Obj.ver] at hi; rw [h1] at hi; cases hi
    · simp only [Obj.ver] at hi; rw [h1] at hi
      simp only [Option.some.injEq, Pl.at.injEq] at hi
      obtain ⟨rfl, rfl⟩ := hi
      exact h2.lt
  | map ks vs =>
    obtain ⟨b', s', es, h1, h2, h3⟩ := h
    simp only [Obj.ver] at hi; rw [h1] at hi
    simp only [Option.some.injEq, Pl.at.injEq] at hi
    obtain ⟨rfl, rfl⟩ := hi
    exact (Array.getElem?_eq_some_iff.1 h2).1

theorem ObjOk.placed {w : World} {k : Nat} {o : Obj} (h : ObjOk g w k o) : ∃ p, g.inj k o.ver = some p := by
  cases o with
  | arr ver var cs =>
    rcases h with ⟨h1, h2⟩ | ⟨b', s', h1, h2⟩
    · exact ⟨_, h1⟩
    · exact ⟨_, h1⟩
  | map ks vs =>
    obtain ⟨b', s', es, h1, h2, h3⟩ := h
    exact ⟨_, h1⟩

def upd (m : Mem) (k : Nat) (o : Obj) : Mem := fun n => if n = k then some o else m n

theorem upd_same (m : Mem) (k : Nat) (o : Obj) : upd m k o k = some o := by simp [upd]

theorem upd_other (m : Mem) {k n : Nat} (o : Obj) (h : n ≠ k) : upd m k o n = m n := by simp [upd, h]

theorem WOk.imm_lt {m : Mem} {w : World} (h : WOk g m w) {b o : Nat} {a : AV} (hi : g.imm b o = some a) : b < w.heap.size := by
  obtain ⟨v, hv, _⟩ := h.immc b o a hi
  exact World.block_lt_of_cell? w _ hv

theorem WOk.immM_lt {m : Mem} {w : World} (h : WOk g m w) {b : Nat} {x : List AV × List AV} (hi : g.immM b = some x) : b < w.heap.size := by
  obtain ⟨ks, vs⟩ := x
  obtain ⟨_, _, es, hes, _⟩ := h.immm b ks vs hi
  exact (Array.getElem?_eq_some_iff.1 hes).1

/-- what is the same of two worlds beside memory -/
structure Beside (w w' : World) : Prop where
  os : w'.os = w.os
  output : w'.output = w.output
  tape : w'.tape = w.tape
  frz : ∀ a, w'.frozen? a = w.frozen? a

theorem cell_of_heap {w w' : World} {a : Addr} (h : w'.heap[a.block]? = w.heap[a.block]?) : w'.cell? a = w.cell? a := by
  simp [World.cell?, h]

/-- ONE OBJECT IS LAID OR CHANGED: key k, which comes to own block b (a new one, or one that it owns). -/
theorem WOk.put {m : Mem} {w w' : World} (hw : WOk g m w) {k b : Nat} {ob : Obj} (hf : Full g g') (himm : g'.imm = g.imm) (himM : g'.immM = g.immM)
    (hinj : ∀ k', k' ≠ k → ∀ ver, g'.inj k' ver = g.inj k' ver) (hsz : w.heap.size ≤ w'.heap.size) (hb : Beside w w')
    (hheap : ∀ b', b' < w.heap.size → b' ≠ b → w'.heap[b']? = w.heap[b']?) (hown : b < w.heap.size → Owns g m k b)
    (hob : ObjOk g' w' k ob) (hpl : ∀ b' s, g'.inj k ob.ver = some (.at b' s) → b' = b) (hvs : ∀ v, ob.ver < v → g'.inj k v = none) (c : Nat) :
    WOk g' (upd m k ob) w' ∧ Tr c (· = k) g m w g' (upd m k ob) w' := by
  -- an object of another key owns another block
  have hne : ∀ k' o b' s, k' ≠ k → m k' = some o → g.inj k' o.ver = some (.at b' s) → b' ≠ b := by
    rintro k' o b' s hk hm hi rfl
    have hlt := (hw.objs k' o hm).lt hi
    exact hk (hw.sep k' k b' ⟨o, s, hm, hi⟩ (hown hlt))
  have owns' : ∀ k' b', Owns g' (upd m k ob) k' b' → (k' = k ∧ b' = b) ∨ (k' ≠ k ∧ Owns g m k' b') := by
    rintro k' b' ⟨o, s, hm, hi⟩
    by_cases hk : k' = k
    · subst hk
      rw [upd_same] at hm
      simp only [Option.some.injEq] at hm; subst hm
      exact .inl ⟨rfl, hpl b' s hi⟩
    · rw [upd_other m ob hk] at hm
      rw [hinj k' hk] at hi
      exact .inr ⟨hk, o, s, hm, hi⟩
  have noimm : (∀ o, g.imm b o = none) ∧ g.immM b = none := by
    rcases Nat.lt_or_ge b w.heap.size with hlt | hge
    · exact hw.own k b (hown hlt)
    · refine ⟨fun o => ?_, ?_⟩
      · cases hi : g.imm b o with
        | none => rfl
        | some a => have := hw.imm_lt hi; omega
      · cases hi : g.immM b with
        | none => rfl
        | some a => have := hw.immM_lt hi; omega
  refine ⟨⟨?_, ?_, ?_, ?_, ?_, ?_⟩, ⟨hf.ext c, ?_, hsz, ?_, ?_, hb.os, hb.output, hb.tape, hb.frz⟩⟩
  · intro b' o a hi
    rw [himm] at hi
    obtain ⟨v, h1, h2, h3, h4⟩ := hw.immc b' o a hi
    have hbb : b' ≠ b := by rintro rfl; rw [noimm.1 o] at hi; cases hi
    exact ⟨v, by rw [cell_of_heap (hheap b' (hw.imm_lt hi) hbb)]; exact h1, hf.R h2, h3, h4⟩
  · intro b' ks vs hi
    rw [himM] at hi
    obtain ⟨h0, h1, es, h2, h3⟩ := hw.immm b' ks vs hi
    have hbb : b' ≠ b := by rintro rfl; rw [noimm.2] at hi; cases hi
    exact ⟨by rw [himm]; exact h0, h1, es, by rw [hheap b' (hw.immM_lt hi) hbb]; exact h2, h3.mono hf⟩
  · intro k' o hm
    by_cases hk : k' = k
    · subst hk
      rw [upd_same] at hm
      simp only [Option.some.injEq] at hm; subst hm
      exact hob
    · rw [upd_other m ob hk] at hm
      exact (hw.objs k' o hm).mono hf (fun b' s hi => hheap b' ((hw.objs k' o hm).lt hi) (hne k' o b' s hk hm hi))
  · intro k1 k2 b' h1 h2
    rcases owns' k1 b' h1 with ⟨e1, e1'⟩ | ⟨n1, p1⟩
    · rcases owns' k2 _ h2 with ⟨e2, _⟩ | ⟨n2, p2⟩
      · rw [e1, e2]
      · obtain ⟨o, s, hm, hi⟩ := p2
        exact absurd e1' (hne k2 o _ s n2 hm hi)
    · rcases owns' k2 b' h2 with ⟨_, e2'⟩ | ⟨n2, p2⟩
      · obtain ⟨o, s, hm, hi⟩ := p1
        exact absurd e2' (hne k1 o _ s n1 hm hi)
      · exact hw.sep k1 k2 b' p1 p2
  · intro k' b' h
    rw [himm, himM]
    rcases owns' k' b' h with ⟨rfl, rfl⟩ | ⟨_, h⟩
    · exact noimm
    · exact hw.own k' b' h
  · intro k' o hm v hv
    by_cases hk : k' = k
    · subst hk
      rw [upd_same] at hm
      simp only [Option.some.injEq] at hm; subst hm
      exact hvs v hv
    · rw [upd_other m ob hk] at hm
      rw [hinj k' hk]
      exact hw.vers k' o hm v hv
  · intro k' _ hn hv
    exact ⟨by rw [upd_other m ob hn]; exact hv, fun ver => hinj k' hn ver⟩
  · intro b' hlt hno
    have hbb : b' ≠ b := by rintro rfl; exact hno k (hown hlt)
    exact ⟨hheap b' hlt hbb, fun o => by rw [himm], by rw [himM]⟩
  · intro k' b' h
    rcases owns' k' b' h with ⟨rfl, rfl⟩ | ⟨_, h⟩
    · rcases Nat.lt_or_ge b' w.heap.size with hlt | hge
      · exact .inl ⟨k', hown hlt⟩
      · exact .inr hge
    · exact .inl ⟨k', h⟩

/-! ## Ghosts grow -/

def G.place (g : G) (k ver : Nat) (p : Pl) : G := { g with inj := fun k' v => if k' = k ∧ v = ver then some p else g.inj k' v }

theorem Full.place {k ver : Nat} (p : Pl) (h : g.inj k ver = none) : Full g (g.place k ver p) :=
  ⟨fun _ _ _ h => h, fun _ _ h => h, fun k' v q hq => by
    simp only [G.place]
    split
    · rename_i hkv; obtain ⟨rfl, rfl⟩ := hkv; rw [h] at hq; cases hq
    · exact hq⟩

theorem G.place_same (k ver : Nat) (p : Pl) : (g.place k ver p).inj k ver = some p := by simp [G.place]

theorem G.place_other {k ver k' : Nat} (p : Pl) (h : k' ≠ k) (v : Nat) : (g.place k ver p).inj k' v = g.inj k' v := by simp [G.place, h]

/-- a row with some cells from a place on is fixed -/
def G.fix (g : G) (b off : Nat) (cs : List AV) : G := { g with imm := fun b' o => if b' = b ∧ off ≤ o ∧ o < off + cs.length then cs[o - off]? else g.imm b' o }

def G.fixM (g : G) (b : Nat) (ks vs : List AV) : G := { g with immM := fun b' => if b' = b then some (ks, vs) else g.immM b' }

theorem Full.fix {b off : Nat} {cs : List AV} (h : ∀ o, g.imm b o = none) : Full g (g.fix b off cs) :=
  ⟨fun b' o a ha => by
    simp only [G.fix]
    split
    · rename_i hb; rw [hb.1, h o] at ha; cases ha
    · exact ha, fun _ _ h => h, fun _ _ _ h => h⟩

theorem Full.fixM {b : Nat} {ks vs : List AV} (h : g.immM b = none) : Full g (g.fixM b ks vs) :=
  ⟨fun _ _ _ h => h, fun b' x hx => by
    simp only [G.fixM]
    split
    · rename_i hb; rw [hb, h] at hx; cases hx
    · exact hx, fun _ _ _ h => h⟩

theorem fix_row (b off : Nat) (cs : List AV) : ImmRow (g.fix b off cs) b off cs := by
  intro j c hj
  have hlt : j < cs.length := (List.getElem?_eq_some_iff.1 hj).1
  show (if b = b ∧ off ≤ off + j ∧ off + j < off + cs.length then cs[off + j - off]? else g.imm b (off + j)) = some c
  rw [if_pos ⟨rfl, by omega, by omega⟩, show off + j - off = j by omega]
  exact hj

/-! ## Reading -/

theorem run_getObj {w : World} {b : Nat} {es : Array MapEntry} {n : Nat} (h : w.heap[b]? = some (.map es n)) : (getObj b).run P w = .ok (.map es n) w := by
  simp [getObj, Sem.run, h]

theorem run_loadRow {t : TypeId} {sh : Sh} (hsh : shOk P t sh = true) {w : World} {b s off : Nat} {cs : List AV} {r : AV} (hrow : RowAt g w b s cs) (hr : partOf sh cs off = some r) :
    ∃ cv, (loadVar t ⟨b, off, none⟩).run P w = .ok cv w ∧ R g r cv := by
  obtain ⟨hz, h0, ha⟩ := shOk_spec hsh
  obtain ⟨C, el, hC, hs, hl, hcells⟩ := hrow
  have hcell : ∀ (j : Nat) v, C[j]? = some v → w.cell? ⟨b, j, none⟩ = some v := by
    intro j v hj
    simp [World.cell?, hC, hj]
  cases sh with
  | one =>
    simp only [partOf] at hr
    obtain ⟨v, hv, hrv, _⟩ := hcells off r hr
    exact ⟨v, by simp [loadVar, ha w, Sh.ag, hcell off v hv], hrv⟩
  | many n =>
    simp only [partOf] at hr
    split at hr
    · rename_i hle
      rw [Nat.ble_eq] at hle
      simp only [Option.some.injEq] at hr; subst hr
      refine ⟨.agg ((C.toList.drop off).take n).toArray, ?_, ?_⟩
      · have hlen : ((C.toList.drop off).take n).length = n := by simp; omega
        have hlc := run_loadCells_list (P := P) w ⟨b, off, none⟩ ((C.toList.drop off).take n) (fun j v hj => by
          rw [List.getElem?_take] at hj
          split at hj
          · rw [List.getElem?_drop] at hj
            rw [addr_add]
            exact hcell _ v (by simpa using hj)
          · cases hj)
        rw [hlen] at hlc
        simp only [loadVar, Sem.run_bind, ha w, Result.andThen_ok, Sh.ag, if_true, szIs_run hz w, Sh.size, Sem.run_pure, hlc]
      · simp only [R]
        refine ⟨_, rfl, RL_mk (by simp; omega) fun j c v hc hv => ?_⟩
        rw [List.getElem?_take] at hc hv
        split at hc
        · rename_i hj
          simp only [hj, if_true] at hv
          rw [List.getElem?_drop] at hc hv
          obtain ⟨u, h1, h2, _⟩ := hcells _ c hc
          have : C[off + j]? = some v := by simpa using hv
          rw [h1] at this
          simp only [Option.some.injEq] at this; subst this; exact h2
        · cases hc
    · cases hr

theorem run_lookIn {kt : TypeId} {n : Nat} (hf : flatN P maxFlat kt = some n) (hno : ¬ ∃ q, P.underlying kt = some (.int q)) {w : World} {b : Nat} {es : Array MapEntry} {ks vs : List AV}
    (hh : w.heap[b]? = some (.map es es.size)) (he : Entries g es ks vs) {t e : TypeId} (hu : P.underlying t = some (.map kt e)) {zero : AV} (hz : zeroOk1 P e zero = true)
    {kc : List AV} {kv : List Value} (hr : RL g kc kv) (hl : kc.length = n) (hi : ∀ c ∈ kc, isInt1 c = true) {ok : Bool} {r : AV} (hv : lookIn zero ks vs kc ok = some r) :
    ∃ cv, (Instr.lookup t (.map (some b)) (.agg kv.toArray) ok).run P w = .ok cv w ∧ R g r cv := by
  obtain ⟨z, hz1, hz2, _⟩ := zeroOk1_spec (g := g) hz
  simp only [lookIn] at hv
  have hck := run_checkKey_ok hf hno hr hl hi es.isEmpty w
  split at hv
  · rename_i i hfi
    have hfk := run_findKey_ok hf hno hr hl w he hfi
    obtain ⟨en, h1, h2, _⟩ := hfk
    split at hv
    · rename_i v hvi
      simp only [Option.some.injEq] at hv
      obtain ⟨_, _, v', h3, h4, _⟩ := he.2.2 i en h1
      rw [hvi] at h3
      simp only [Option.some.injEq] at h3; subst h3
      cases ok with
      | true =>
        simp only [if_true] at hv; subst hv
        refine ⟨.tuple #[en.val, .bool true], ?_, ?_⟩
        · simp only [Instr.lookup, Sem.run_bind, run_underlying hu, Result.andThen_ok, run_getObj hh, Sem.run_pure, hck, h2, if_true]
        · simp only [R, RL]
          exact ⟨[en.val, .bool true], rfl, _, _, rfl, h4, _, _, rfl, rfl, rfl⟩
      | false =>
        simp only [Bool.false_eq_true, if_false] at hv; subst hv
        refine ⟨en.val, ?_, h4⟩
        simp only [Instr.lookup, Sem.run_bind, run_underlying hu, Result.andThen_ok, run_getObj hh, Sem.run_pure, hck, h2, Bool.false_eq_true, if_false]
    · cases hv
  · rename_i hfi
    have h2 := run_findKey_ok hf hno hr hl w he hfi
    simp only at h2
    simp only [Option.some.injEq] at hv
    cases ok with
    | true =>
      simp only [if_true] at hv; subst hv
      refine ⟨.tuple #[z, .bool false], ?_, ?_⟩
      · simp only [Instr.lookup, Sem.run_bind, run_underlying hu, Result.andThen_ok, run_getObj hh, Sem.run_pure, hck, h2, hz1, if_true]
      · simp only [R, RL]
        exact ⟨[z, .bool false], rfl, _, _, rfl, hz2, _, _, rfl, rfl, rfl⟩
    | false =>
      simp only [Bool.false_eq_true, if_false] at hv; subst hv
      refine ⟨z, ?_, hz2⟩
      simp only [Instr.lookup, Sem.run_bind, run_underlying hu, Result.andThen_ok, run_getObj hh, Sem.run_pure, hck, h2, hz1, Bool.false_eq_true, if_false]
  · cases hv

theorem mem_ok {o : Oper} {ao : AOp} {t : T} {a : Act} {w : World} {os : Objs} (hag : agOp P o.op ao = true) (ht : TOn g t a.tmps ao.uses) (hw : WOk g os.get w) {v : AV} (hv : memV t os ao = some v) :
    ∃ cv, (execOp a.eval o).run P w = .ok (.value cv) w ∧ R g v cv := by
  obtain ⟨dst, op, ty, pos, after, guard⟩ := o
  simp only at hag
  cases ao <;> simp only [memV, reduceCtorEq] at hv <;> simp only [agOp] at hag
  case load sh x =>
    split at hag
    · rename_i t0 x'
      simp only [Bool.and_eq_true] at hag
      obtain ⟨hsh, hx⟩ := hag
      have hr := agOpd_R hx ht
      split at hv
      · rename_i y hy
        rw [hy] at hr
        simp only [R] at hr
        obtain ⟨b, o, hp, hi⟩ := hr
        obtain ⟨cv, h1, h2⟩ := run_loadFixed hsh hw.fixed hi hv
        exact ⟨cv, by simp [execOp, hp, Instr.loadAt, Instr.sureAddr, h1], h2⟩
      · generalize Opd.ev t x = xa at *
        cases xa <;> simp only [loadV, reduceCtorEq] at hv
        rename_i k ver off _
        split at hv
        · rename_i ver' var cs hget
          split at hv
          · rename_i hver
            rw [Nat.beq_eq] at hver; subst hver
            simp only [R] at hr
            obtain ⟨b, s, hi, hp⟩ := hr
            have ho := hw.objs k _ hget
            rcases ho with ⟨h1, _⟩ | ⟨b', s', h1, hrow⟩
            · rw [hi] at h1; cases h1
            · rw [hi] at h1
              simp only [Option.some.injEq, Pl.at.injEq] at h1
              obtain ⟨rfl, rfl⟩ := h1
              obtain ⟨cv, h2, h3⟩ := run_loadRow hsh hrow hv
              exact ⟨cv, by simp [execOp, hp, Instr.loadAt, Instr.sureAddr, h2], h3⟩
          · cases hv
        · cases hv
    · cases hag
  case sliceA n sh x lo hi mx =>
    split at hag
    · rename_i t0 x' lo' hi' mx'
      simp only [Bool.and_eq_true] at hag
      obtain ⟨⟨⟨⟨he, hx⟩, h1⟩, h2⟩, h3⟩ := hag
      split at he
      · rename_i m e hu
        simp only [Bool.and_eq_true, Nat.beq_eq] at he
        obtain ⟨rfl, hsh⟩ := he
        obtain ⟨hz, h0, _⟩ := shOk_spec hsh
        have hxr := agOpd_R hx (ht.sub (fun n hn => by simp only [AOp.uses, List.mem_append]; exact .inl (.inl (.inl hn))))
        have t1 : TOn g t a.tmps (useO lo) := ht.sub (fun n hn => by simp only [AOp.uses, List.mem_append]; exact .inl (.inl (.inr hn)))
        have t2 : TOn g t a.tmps (useO hi) := ht.sub (fun n hn => by simp only [AOp.uses, List.mem_append]; exact .inl (.inr hn))
        generalize Opd.ev t x = xa at *
        cases xa <;> simp only [sliceAV, reduceCtorEq] at hv
        rename_i k ver off
        split at hv
        · rename_i ver' var cs hget
          split at hv
          · rename_i hver
            simp only [Bool.and_eq_true, Nat.beq_eq, Nat.ble_eq] at hver
            obtain ⟨rfl, hle⟩ := hver
            simp only [R] at hxr
            obtain ⟨b, s, hi0, hp⟩ := hxr
            have ho := hw.objs k _ hget
            rcases ho with ⟨h4, _⟩ | ⟨b', s', h4, hrow⟩
            · rw [hi0] at h4; cases h4
            · rw [hi0] at h4
              simp only [Option.some.injEq, Pl.at.injEq] at h4
              obtain ⟨rfl, rfl⟩ := h4
              obtain ⟨C, el, hC, hs, hl, hcells⟩ := hrow
              split at hv
              · rename_i l h hlo hhi hmx
                have hmx' : mx' = none := by
                  cases mx <;> simp [ev?] at hmx
                  cases mx' <;> simp [agOpt] at h3
                  rfl
                subst hmx'
                split at hv
                · rename_i hc
                  simp only [Bool.and_eq_true, Nat.ble_eq] at hc
                  obtain ⟨c1, c2⟩ := hc
                  have hb := run_sliceBounds (P := P) (isS := false) (len := m) (cap := m) (l := l) (h := h) (m := m) (optNat_R h1 t1 hlo).1 (optNat_R h2 t2 hhi).1 (.inl ⟨rfl, rfl⟩) (by simp) c1 (fun _ => c2) (by simp) w
                  have hrun : (Instr.sliceAt t0 (.pointer (some ⟨b, off, none⟩)) (lo'.map a.eval) (hi'.map a.eval) none).run P w =
                      .ok (.slice (some (if m = l then ⟨b, off, none⟩ else ⟨b, off + l * sh.size, none⟩)) (h - l) (m - l)) w := by
                    simp only [Instr.sliceAt, Sem.run_bind, run_underlying hu, Result.andThen_ok, Instr.sureAddr, Sem.run_pure, hb, szIs_run hz w, addr_add]
                  have hex : (execOp a.eval { dst, op := .slice t0 x' lo' hi' none, type := ty, pos, after, guard }).run P w =
                      .ok (.value (.slice (some (if m = l then ⟨b, off, none⟩ else ⟨b, off + l * sh.size, none⟩)) (h - l) (m - l))) w := by
                    simp only [execOp, hp, Option.map_none, Sem.run_bind, hrun, Result.andThen_ok, Sem.run_pure]
                  refine ⟨_, hex, ?_⟩
                  split at hv
                  · rename_i hlh
                    rw [Nat.beq_eq] at hlh; subst hlh
                    simp only [Option.some.injEq] at hv; subst hv
                    rw [Nat.sub_self]
                    exact R_slice_nil
                  · rename_i hlh
                    rw [Nat.beq_eq] at hlh
                    simp only [Option.some.injEq] at hv; subst hv
                    simp only [R]
                    refine .inr ⟨b, s, m - l, hi0, by rw [if_neg (by omega)], by omega, ?_⟩
                    have e1 : (l + (m - l)) * sh.size = l * sh.size + (m - l) * sh.size := Nat.add_mul _ _ _
                    have e2 : l + (m - l) = m := by omega
                    rw [e2] at e1
                    omega
                · cases hv
              · cases hv
          · cases hv
        · cases hv
      · cases he
    · cases hag
  case look zero kn x k ok =>
    split at hag
    · rename_i t0 x' k' ok'
      simp only [Bool.and_eq_true, beq_iff_eq] at hag
      obtain ⟨⟨⟨hm, hx⟩, hk⟩, rfl⟩ := hag
      split at hm
      · rename_i kt e hme
        obtain ⟨hu, hf, hno⟩ := isMapOk_spec hme
        have hxr := agOpd_R hx (ht.sub (fun n hn => by simp only [AOp.uses, List.mem_append]; exact .inl hn))
        have hkr := agOpd_R hk (ht.sub (fun n hn => by simp only [AOp.uses, List.mem_append]; exact .inr hn))
        generalize Opd.ev t x = xa at *
        generalize Opd.ev t k = ka at *
        simp only [lookV] at hv
        split at hv
        · cases hv
        · rename_i kc hkc
          obtain ⟨rfl, hl, hi⟩ := keyOf_spec hkc
          simp only [R] at hkr
          obtain ⟨kv, hkv, hkl⟩ := hkr
          have fin : ∀ {b : Nat} {es : Array MapEntry} {ks vs : List AV}, a.eval x' = .map (some b) → w.heap[b]? = some (.map es es.size) → Entries g es ks vs → lookIn zero ks vs kc ok = some v →
              ∃ cv, (execOp a.eval { dst, op := .lookup t0 x' k' ok, type := ty, pos, after, guard }).run P w = .ok (.value cv) w ∧ R g v cv := by
            intro b es ks vs h1 h2 h3 h4
            obtain ⟨cv, h5, h6⟩ := run_lookIn hf hno h2 h3 hu hm hkl hl hi h4
            exact ⟨cv, by simp [execOp, h1, hkv, h5], h6⟩
          split at hv
          · rename_i r
            split at hv
            · rename_i ks vs hget
              simp only [R] at hxr
              obtain ⟨b, s, hi0, hp⟩ := hxr
              obtain ⟨b', s', es, h1, h2, h3⟩ := hw.objs r _ hget
              rw [hi0] at h1
              simp only [Option.some.injEq, Pl.at.injEq] at h1
              obtain ⟨rfl, rfl⟩ := h1
              exact fin hp h2 h3 hv
            · cases hv
          · rename_i ks vs
            simp only [R] at hxr
            obtain ⟨b, hp, hi0⟩ := hxr
            obtain ⟨_, _, es, h2, h3⟩ := hw.immm b ks vs hi0
            exact fin hp h2 h3 hv
          · cases hv
      · cases hm
    · cases hag
  case lenM x =>
    split at hag
    · rename_i as ts
      split at hag
      · rename_i x' t0 has hts
        simp only [Bool.and_eq_true] at hag
        obtain ⟨hm, hx⟩ := hag
        have has' : as = #[x'] := by
          apply Array.ext'; simpa using has
        subst has'
        have hr := agOpd_R hx ht
        split at hm
        · rename_i kt e hu
          split at hv
          · rename_i r hxr
            split at hv
            · rename_i ks vs hget
              simp only [Option.some.injEq] at hv; subst hv
              rw [hxr] at hr
              simp only [R] at hr
              obtain ⟨b, s, hi0, hp⟩ := hr
              obtain ⟨b', s', es, h1, h2, h3⟩ := hw.objs r _ hget
              rw [hi0] at h1
              simp only [Option.some.injEq, Pl.at.injEq] at h1
              obtain ⟨rfl, rfl⟩ := h1
              rw [h3.1]
              exact ⟨_, by simp [execOp, resolve, invoke, builtin, Builtin.len_, hts, run_underlying hu, hp, run_getObj h2, goInt], R_int⟩
            · cases hv
          · cases hv
        · cases hm
      · cases hag
    · cases hag

end Go.Va
/-! Operations that make objects. -/
namespace Go.Va

variable {P : Program} {g g' : G}

def updo (m : Mem) (k : Nat) : Option Obj → Mem
  | some o => upd m k o
  | none => m

theorem Beside.refl (w : World) : Beside w w := ⟨rfl, rfl, rfl, fun _ => rfl⟩
/-- an object without frozen cells -/
def Loose : Go.Obj → Prop
  | .cells _ _ z => z = (0, 0)
  | _ => True

theorem Beside.alloc (w : World) (o : Go.Obj) (ho : Loose o := by trivial) : Beside w (w.alloc o) := ⟨rfl, rfl, rfl, fun a => by
  by_cases h : a.block = w.heap.size
  · have e1 : (w.alloc o).heap[a.block]? = some o := by
      rw [h]
      show (w.heap.push o)[w.heap.size]? = some o
      simp
    have e2 : w.heap[a.block]? = none := by rw [h]; simp
    unfold World.frozen?
    rw [e1, e2]
    cases o with
    | cells C el z =>
      simp only [Loose] at ho
      subst ho
      simp
    | _ => rfl
  · exact World.frozen?_alloc_old _ _ _ h⟩
theorem Beside.drew (w : World) : Beside w w.drew := ⟨rfl, rfl, rfl, fun _ => rfl⟩
theorem Beside.trans {w w' w'' : World} (h : Beside w w') (h' : Beside w' w'') : Beside w w'' := ⟨h'.os.trans h.os, h'.output.trans h.output, h'.tape.trans h.tape, fun a => (h'.frz a).trans (h.frz a)⟩

theorem heap_alloc_lt (w : World) (o : Go.Obj) {b : Nat} (h : b < w.heap.size) : (w.alloc o).heap[b]? = w.heap[b]? := by
  simp only [World.alloc]
  rw [Array.getElem?_push]
  split
  · omega
  · rfl

theorem heap_alloc_new (w : World) (o : Go.Obj) : (w.alloc o).heap[w.heap.size]? = some o := by
  show (w.heap.push o)[w.heap.size]? = some o
  simp

/-- the same world but for its draws -/
theorem WOk.sameHeap {m : Mem} {w w' : World} (h : WOk g m w) (hh : w'.heap = w.heap) : WOk g m w' := by
  refine ⟨fun b o a hi => ?_, fun b ks vs hi => ?_, fun k o hm => ?_, h.sep, h.own, h.vers⟩
  · obtain ⟨v, h1, h2⟩ := h.immc b o a hi
    exact ⟨v, by rw [cell_of_heap (w := w) (w' := w') (by rw [hh])]; exact h1, h2⟩
  · obtain ⟨h0, h1, es, h2, h3⟩ := h.immm b ks vs hi
    exact ⟨h0, h1, es, by rw [hh]; exact h2, h3⟩
  · exact (h.objs k o hm).mono (Full.refl g) (fun b s _ => by rw [hh])

theorem Tr.sameHeap {c : Nat} {N : Nat → Prop} {m : Mem} {w w' : World} (hh : w'.heap = w.heap) (hb : Beside w w') : Tr c N g m w g m w' :=
  ⟨Ext.refl c g, fun _ _ _ h => ⟨h, fun _ => rfl⟩, by rw [hh]; exact Nat.le_refl _, fun _ _ _ => ⟨by rw [hh], fun _ => rfl, rfl⟩, fun k _ h => .inl ⟨k, h⟩, hb.os, hb.output, hb.tape, hb.frz⟩

/-- A NEW ROW, AN OBJECT'S -/
theorem WOk.newRow {m : Mem} {w : World} (hw : WOk g m w) {nk : Nat} (hn : ∀ ver, g.inj nk ver = none) (var : Bool) {cs : List AV} {C : Array Value} {el : TypeId}
    (hr : RL g cs (C.toList.take cs.length)) (hs : scalars cs = true) (hl : cs.length ≤ C.size) (c : Nat) :
    WOk (g.place nk 0 (.at w.heap.size C.size)) (upd m nk (.arr 0 var cs)) (w.alloc (.cells C el)) ∧
    Tr c (· = nk) g m w (g.place nk 0 (.at w.heap.size C.size)) (upd m nk (.arr 0 var cs)) (w.alloc (.cells C el)) := by
  have hf := Full.place (g := g) (k := nk) (ver := 0) (.at w.heap.size C.size) (hn 0)
  refine hw.put (b := w.heap.size) hf rfl rfl (fun k' hk ver => G.place_other _ hk ver) (by simp) (Beside.alloc w _) (fun b' h _ => heap_alloc_lt w _ h) (fun h => absurd h (Nat.lt_irrefl _)) ?_ ?_ (fun v hv => by simp only [G.place]; rw [if_neg (by simp only [Obj.ver] at hv; omega)]; exact hn v) c
  · refine .inr ⟨w.heap.size, C.size, G.place_same _ _ _, C, el, heap_alloc_new w _, rfl, hl, fun j x hx => ?_⟩
    obtain ⟨v, hv, hrv⟩ := RL_get (hf.RL hr) j x hx
    rw [List.getElem?_take] at hv
    split at hv
    · exact ⟨v, by simpa using hv, hrv, scalars_get hs j x hx⟩
    · cases hv
  · intro b' s hi
    simp only [Obj.ver] at hi
    rw [G.place_same] at hi
    simp only [Option.some.injEq, Pl.at.injEq] at hi
    exact hi.1.symm

/-- A NEW ROW THAT STAYS AS IT IS -/
theorem WOk.newFixed {m : Mem} {w : World} (hw : WOk g m w) {cs : List AV} {C : Array Value} {el : TypeId} (hr : RL g cs C.toList) (hs : scalars cs = true) (hd : AV.datas cs = some cs) (c : Nat) :
    WOk (g.fix w.heap.size 0 cs) m (w.alloc (.cells C el)) ∧ Tr c (fun _ => False) g m w (g.fix w.heap.size 0 cs) m (w.alloc (.cells C el)) ∧ Full g (g.fix w.heap.size 0 cs) := by
  have hno : ∀ o, g.imm w.heap.size o = none := fun o => by
    cases hi : g.imm w.heap.size o with
    | none => rfl
    | some a => exact absurd (hw.imm_lt hi) (Nat.lt_irrefl _)
  have hf := Full.fix (g := g) (b := w.heap.size) (off := 0) (cs := cs) hno
  have hold : ∀ b' o, b' ≠ w.heap.size → (g.fix w.heap.size 0 cs).imm b' o = g.imm b' o := by
    intro b' o h
    simp [G.fix, h]
  have howns : ∀ k b, Owns (g.fix w.heap.size 0 cs) m k b ↔ Owns g m k b := fun k b => Iff.rfl
  have hlt : ∀ k b, Owns g m k b → b < w.heap.size := fun k b ⟨o, s, hm, hi⟩ => (hw.objs k o hm).lt hi
  refine ⟨⟨?_, ?_, ?_, hw.sep, ?_, hw.vers⟩, ⟨hf.ext c, fun _ _ _ h => ⟨h, fun _ => rfl⟩, by simp, ?_, fun k b h => .inl ⟨k, h⟩, rfl, rfl, rfl, (Beside.alloc w _).frz⟩, hf⟩
  · intro b o a hi
    by_cases hb : b = w.heap.size
    · subst hb
      simp only [G.fix] at hi
      split at hi
      · rename_i hc
        simp only [Nat.sub_zero] at hi
        obtain ⟨v, hv, hrv⟩ := RL_get hr o a hi
        refine ⟨v, ?_, hf.R hrv, scalars_get hs o a hi, ?_⟩
        · rw [World.cell?_alloc_new]
          simpa using hv
        · obtain ⟨c', h1, h2⟩ := datas_get hd o a hi
          rw [hi] at h1
          simp only [Option.some.injEq] at h1; subst h1; exact h2
      · rw [hno o] at hi; cases hi
    · rw [hold b o hb] at hi
      obtain ⟨v, h1, h2, h3, h4⟩ := hw.immc b o a hi
      exact ⟨v, by rw [cell_of_heap (heap_alloc_lt w _ (hw.imm_lt hi))]; exact h1, hf.R h2, h3, h4⟩
  · intro b ks vs hi
    have hi' : g.immM b = some (ks, vs) := hi
    obtain ⟨h0, h1, es, h2, h3⟩ := hw.immm b ks vs hi'
    have hbl := hw.immM_lt hi'
    exact ⟨fun o => by rw [hold b o (by omega)]; exact h0 o, h1, es, by rw [heap_alloc_lt w _ hbl]; exact h2, h3.mono hf⟩
  · intro k o hm
    exact (hw.objs k o hm).mono hf (fun b s hi => heap_alloc_lt w _ ((hw.objs k o hm).lt hi))
  · intro k b h
    have hb := hlt k b h
    obtain ⟨h1, h2⟩ := hw.own k b h
    exact ⟨fun o => by rw [hold b o (by omega)]; exact h1 o, h2⟩
  · intro b hb _
    exact ⟨heap_alloc_lt w _ hb, fun o => hold b o (by omega), rfl⟩

/-! ## Rows of zeros, elements -/

theorem replicate_length (zero : List AV) : ∀ n, (replicateCells zero n).length = n * zero.length
  | 0 => by simp [replicateCells]
  | n + 1 => by simp [replicateCells, replicate_length zero n, Nat.add_mul]; omega

theorem replicate_get {zero : List AV} (hz : 0 < zero.length) : ∀ (n j : Nat), j < n * zero.length → (replicateCells zero n)[j]? = zero[j % zero.length]?
  | 0, j, h => by omega
  | n + 1, j, h => by
    simp only [replicateCells, List.getElem?_append]
    split
    · rename_i hj
      rw [Nat.mod_eq_of_lt hj]
    · rename_i hj
      rw [replicate_get hz n (j - zero.length) (by rw [Nat.add_mul] at h; omega)]
      congr 1
      rw [Nat.mod_eq_sub_mod (by omega : j ≥ zero.length)]

theorem zeros_RL {zero : List AV} {z : Array Value} (hz : RL g zero z.toList) (h0 : 0 < zero.length) (n : Nat) :
    RL g (replicateCells zero n) ((Array.range (n * z.size)).map fun i => z[i % z.size]!).toList := by
  have hl : zero.length = z.size := by simpa using RL_len hz
  refine RL_mk (by rw [replicate_length]; simp [hl]) fun j c v hc hv => ?_
  have hj : j < n * zero.length := by
    have := (List.getElem?_eq_some_iff.1 hc).1
    rwa [replicate_length] at this
  rw [replicate_get h0 n j hj] at hc
  obtain ⟨u, hu, hru⟩ := RL_get hz _ c hc
  have hv' : v = z[j % z.size]! := by
    simp only [Array.toList_map, Array.toList_range, List.getElem?_map, List.getElem?_range, hl ▸ hj, Option.map_some, Option.some.injEq] at hv
    simpa using hv.symm
  have hlt : j % z.size < z.size := Nat.mod_lt _ (by omega)
  rw [hv', getElem!_pos z _ hlt]
  rw [hl] at hu
  have : z.toList[j % z.size]? = some z[j % z.size] := by simp [hlt]
  rw [this] at hu
  simp only [Option.some.injEq] at hu
  rw [hu]; exact hru

theorem replicate_scalars {zero : List AV} (hz : scalars zero = true) : ∀ n, scalars (replicateCells zero n) = true
  | 0 => rfl
  | n + 1 => by
    have ha : ∀ {a b : List AV}, scalars a = true → scalars b = true → scalars (a ++ b) = true := by
      intro a b h1 h2
      induction a with
      | nil => exact h2
      | cons x a ih => simp only [List.cons_append, scalars, Bool.and_eq_true] at h1 ⊢; exact ⟨h1.1, ih h1.2⟩
    exact ha hz (replicate_scalars hz n)

theorem scalars_append {a b : List AV} (h1 : scalars a = true) (h2 : scalars b = true) : scalars (a ++ b) = true := by
  induction a with
  | nil => exact h2
  | cons x a ih => simp only [List.cons_append, scalars, Bool.and_eq_true] at h1 ⊢; exact ⟨h1.1, ih h1.2⟩

theorem scalars_iff {a : List AV} : scalars a = true ↔ ∀ c ∈ a, c.scalar = true := by
  induction a with
  | nil => simp [scalars]
  | cons x a ih => simp [scalars, ih]

theorem scalars_sub {a : List AV} (h : scalars a = true) (o n : Nat) : scalars ((a.drop o).take n) = true := by
  rw [scalars_iff] at h ⊢
  intro c hc
  exact h c (List.mem_of_mem_drop (List.mem_of_mem_take hc))

theorem elemOf_spec {sh : Sh} {cs : List AV} {x : AV} (h : elemOfCells sh cs = some x) (hs : scalars cs = true) : x.cells = cs ∧ cs.length = sh.size := by
  cases sh with
  | one =>
    cases cs with
    | nil => simp [elemOfCells] at h
    | cons v tl =>
      cases tl with
      | cons v' tl => simp [elemOfCells] at h
      | nil =>
        simp only [elemOfCells, Option.some.injEq] at h; subst h
        simp only [scalars, Bool.and_true] at hs
        refine ⟨?_, rfl⟩
        cases v <;> first | rfl | simp [AV.scalar] at hs
  | many n =>
    simp only [elemOfCells] at h
    split at h
    · rename_i hl
      rw [Nat.beq_eq] at hl
      simp only [Option.some.injEq] at h; subst h
      exact ⟨rfl, hl⟩
    · cases h

theorem elemsOf_spec {sh : Sh} : ∀ {n : Nat} {cs xs : List AV}, elemsOf sh n cs = some xs → scalars cs = true → xs.length = n ∧
    ∀ (i : Nat) (x : AV), xs[i]? = some x → x.cells.length = sh.size ∧ x.cells = (cs.drop (i * sh.size)).take sh.size
  | 0, cs, xs, h, _ => by
    simp only [elemsOf, Option.some.injEq] at h; subst h
    exact ⟨rfl, fun i x hx => by simp at hx⟩
  | n + 1, cs, xs, h, hs => by
    simp only [elemsOf] at h
    split at h
    · rename_i v hv
      split at h
      · rename_i vs hvs
        simp only [Option.some.injEq] at h; subst h
        have hs1 : scalars (cs.take sh.size) = true := by simpa using scalars_sub hs 0 sh.size
        have hs2 : scalars (cs.drop sh.size) = true := by
          rw [scalars_iff] at hs ⊢
          exact fun c hc => hs c (List.mem_of_mem_drop hc)
        obtain ⟨h1, h2⟩ := elemOf_spec hv hs1
        obtain ⟨h3, h4⟩ := elemsOf_spec hvs hs2
        refine ⟨by simp [h3], fun i x hx => ?_⟩
        cases i with
        | zero =>
          simp at hx; subst hx
          exact ⟨by rw [h1, h2], by simpa using h1⟩
        | succ i =>
          obtain ⟨h5, h6⟩ := h4 i x (by simpa using hx)
          refine ⟨h5, ?_⟩
          rw [h6, List.drop_drop]
          congr 2
          rw [Nat.add_mul]; omega
      · cases h
    · cases h

theorem elems_imm {sh : Sh} {n : Nat} {cs xs : List AV} (h : elemsOf sh n cs = some xs) (hs : scalars cs = true) {b o : Nat} (hi : ImmRow g b o cs) : ImmElems g b o sh.size xs := by
  intro i x hx
  obtain ⟨h1, h2⟩ := (elemsOf_spec h hs).2 i x hx
  refine ⟨h1, fun j c hc => ?_⟩
  rw [h2, List.getElem?_take] at hc
  split at hc
  · rw [List.getElem?_drop] at hc
    have := hi _ c hc
    rwa [← Nat.add_assoc] at this
  · cases hc

theorem elemsParts {ps : List (Nat × Operand)} {qs : List (Nat × Opd)} (s : Nat) (h : agElems ps qs = true) :
    agParts (fun i => some (i * s, s)) ps (qs.map fun (i, x) => (i * s, s, x)) = true := by
  induction ps generalizing qs with
  | nil => cases qs <;> simp_all [agElems, agParts]
  | cons p ps ih =>
    obtain ⟨i, x⟩ := p
    cases qs with
    | nil => simp [agElems] at h
    | cons q qs =>
      obtain ⟨j, y⟩ := q
      simp only [agElems, Bool.and_eq_true, Nat.beq_eq] at h
      obtain ⟨⟨rfl, h1⟩, h2⟩ := h
      simp [agParts, h1, ih h2]

theorem fillV_len : ∀ {qs : List (Nat × Nat × AV)} {cs out : List AV}, fillV cs qs = some out → out.length = cs.length
  | [], cs, out, h => by simp only [fillV, Option.some.injEq] at h; rw [h]
  | (off, n, v) :: qs, cs, out, h => by
    simp only [fillV] at h
    split at h
    · rename_i hc
      simp only [Bool.and_eq_true, Nat.beq_eq, Nat.ble_eq] at hc
      rw [fillV_len h]
      simp [putAt]
      omega
    · cases h

theorem fillV_scalars : ∀ {qs : List (Nat × Nat × AV)} {cs out : List AV}, fillV cs qs = some out → scalars cs = true → scalars out = true
  | [], cs, out, h, hs => by simp only [fillV, Option.some.injEq] at h; rwa [← h]
  | (off, n, v) :: qs, cs, out, h, hs => by
    simp only [fillV] at h
    split at h
    · rename_i hc
      simp only [Bool.and_eq_true, Nat.beq_eq, Nat.ble_eq] at hc
      refine fillV_scalars h (scalars_append (scalars_append ?_ hc.1.2) ?_)
      · simpa using scalars_sub hs 0 off
      · rw [scalars_iff] at hs ⊢
        exact fun c hc => hs c (List.mem_of_mem_drop hc)
    · cases h

theorem data_scalar {c d : AV} (h : AV.data c = some d) (hs : c.scalar = true) : d.scalar = true := by
  cases c <;> simp only [AV.data, Option.some.injEq, reduceCtorEq] at h <;> simp only [AV.scalar, Bool.false_eq_true] at hs
  case func f a b =>
    split at h
    · split at h
      · simp only [Option.some.injEq] at h; subst h; rfl
      · cases h
    · cases h
  all_goals (subst h; rfl)

theorem datas_scalars {cs ds : List AV} (h : AV.datas cs = some ds) (hs : scalars cs = true) : scalars ds = true := by
  rw [scalars_iff] at hs ⊢
  intro d hd
  obtain ⟨j, hj⟩ := List.mem_iff_getElem?.1 hd
  obtain ⟨c, hc, hcd⟩ := datas_get h j d hj
  exact data_scalar hcd (hs c (List.mem_of_getElem? hc))

/-! ## Sources of append -/

theorem flat_get {sh : Sh} {xs : List AV} (h : (xs.all fun v => Nat.beq v.cells.length sh.size) = true) :
    (xs.flatMap AV.cells).length = xs.length * sh.size ∧ ∀ (g : G) (b o : Nat), ImmElems g b o sh.size xs → ImmRow g b o (xs.flatMap AV.cells) := by
  induction xs with
  | nil => exact ⟨by simp, fun g b o _ j c hc => by simp at hc⟩
  | cons x xs ih =>
    simp only [List.all_cons, Bool.and_eq_true, Nat.beq_eq] at h
    obtain ⟨h1, h2⟩ := ih h.2
    refine ⟨by simp [h.1, h1, Nat.add_mul]; omega, fun g b o hi => ?_⟩
    intro j c hc
    simp only [List.flatMap_cons, List.getElem?_append] at hc
    split at hc
    · simpa using (hi 0 x rfl).2 j c hc
    · rename_i hj
      have := h2 g b (o + sh.size) (fun i y hy => by
        have := hi (i + 1) y (by simpa using hy)
        refine ⟨this.1, ?_⟩
        have e : o + (i + 1) * sh.size = o + sh.size + i * sh.size := by rw [Nat.add_mul]; omega
        rw [← e]; exact this.2) (j - x.cells.length) c hc
      have e : o + sh.size + (j - x.cells.length) = o + j := by omega
      rwa [e] at this

/-- the cells of a fixed row, as values -/
theorem fixed_vals {w : World} (hf : Fixed g w) : ∀ (cs : List AV) (b o : Nat), ImmRow g b o cs → ∃ vs : List Value, RL g cs vs ∧ ∀ (j : Nat) v, vs[j]? = some v → w.cell? ⟨b, o + j, none⟩ = some v
  | [], b, o, _ => ⟨[], by simp [RL], by simp⟩
  | c :: cs, b, o, hi => by
    obtain ⟨v, hv, hrv, _⟩ := hf b o c (by simpa using hi 0 c rfl)
    obtain ⟨vs, h1, h2⟩ := fixed_vals hf cs b (o + 1) (fun j c' hj => by have := hi (j + 1) c' (by simpa using hj); rwa [show o + (j + 1) = o + 1 + j by omega] at this)
    refine ⟨v :: vs, by simp only [RL]; exact ⟨v, vs, rfl, hrv, h1⟩, fun j u hj => ?_⟩
    cases j with
    | zero => simp at hj; subst hj; simpa using hv
    | succ j => rw [show o + (j + 1) = o + 1 + j by omega]; exact h2 j u (by simpa using hj)

/-- what append reads -/
structure Src (P : Program) (g : G) (w : World) (size n : Nat) (v : Value) (src : List AV) (vs : List Value) : Prop where
  rel : RL g src vs
  len : src.length = n * size
  lenOf : ∀ w' : World, (Builtin.lenOf v).run P w' = .ok n w'
  first : ∀ w' : World, w'.heap = w.heap → (Builtin.firstCells size n v).run P w' = .ok vs.toArray w'

theorem run_src {w : World} {m : Mem} (hw : WOk g m w) {os : Objs} (hos : ∀ k o, os.get k = some o → m k = some o) {sh : Sh} {nt n : Nat} {y : AV} {src : List AV} {v : Value}
    (h : srcCells os sh nt y = some (n, src)) (hr : R g y v) :
    ∃ vs, Src P g w sh.size n v src vs ∧
      (n = 0 ∨ 0 < sh.size → n = 0 ∨ ∃ b o c, v = .slice (some ⟨b, o, none⟩) n c ∧ (∃ C el fr, w.heap[b]? = some (.cells C el fr) ∧ o + n * sh.size ≤ C.size) ∧
        ((∃ oo a, g.imm b oo = some a) ∨ ∃ k', k' ≠ nt ∧ Owns g m k' b)) := by
  cases y <;> simp only [srcCells, reduceCtorEq] at h
  case slT lim xs =>
    split at h
    · rename_i hall
      simp only [Option.some.injEq, Prod.mk.injEq] at h
      obtain ⟨rfl, rfl⟩ := h
      simp only [R] at hr
      obtain ⟨a, c, rfl, hc, _, hel⟩ := hr
      obtain ⟨h1, h2⟩ := flat_get hall
      by_cases hne : xs = []
      · subst hne
        refine ⟨[], ⟨by simp [RL], by simp, fun w' => by simp [Builtin.lenOf], fun w' _ => ?_⟩, fun _ => .inl rfl⟩
        cases a with
        | none => simp [Builtin.firstCells]
        | some a => simp [Builtin.firstCells, loadCells, loadCellsFrom]
      · obtain ⟨b, o, n, rfl, hi⟩ := hel hne
        have hn : n = sh.size := by
          cases xs with
          | nil => exact absurd rfl hne
          | cons x xr =>
            simp only [List.all_cons, Bool.and_eq_true, Nat.beq_eq] at hall
            rw [← hall.1]; exact (hi 0 x rfl).1.symm
        subst hn
        have hrow := h2 g b o hi
        obtain ⟨vs, h3, h4⟩ := fixed_vals hw.fixed _ b o hrow
        have hvl : vs.length = xs.length * sh.size := by rw [← RL_len h3, h1]
        refine ⟨vs, ⟨h3, h1, fun w' => by simp [Builtin.lenOf], fun w' hh => ?_⟩, fun hpos => ?_⟩
        · have hlc := run_loadCells_list (P := P) w' ⟨b, o, none⟩ vs (fun j v hj => by
            rw [addr_add, cell_of_heap (w := w) (w' := w') (by rw [hh])]
            exact h4 j v hj)
          simp only [Builtin.firstCells, ← hvl, hlc]
        · right
          refine ⟨b, o, c, rfl, ?_, .inl ?_⟩
          · -- the last cell lies there
            have hp : 0 < xs.length := List.length_pos_iff.2 hne
            have hsz : 0 < sh.size := by rcases hpos with h | h; · omega
                                         · exact h
            have hmul : 0 < xs.length * sh.size := Nat.mul_pos hp hsz
            have hlast := h4 (xs.length * sh.size - 1) (vs[xs.length * sh.size - 1]'(by omega)) (List.getElem?_eq_getElem (by omega))
            unfold World.cell? at hlast
            split at hlast
            · rename_i C el fr hC
              refine ⟨C, el, fr, hC, ?_⟩
              simp only [Option.isSome_none, Bool.false_eq_true, if_false] at hlast
              have := (Array.getElem?_eq_some_iff.1 hlast).1
              omega
            · cases hlast
          · have hp : 0 < xs.length := List.length_pos_iff.2 hne
            have hsz : 0 < sh.size := by rcases hpos with h | h; · omega
                                         · exact h
            have hmul : 0 < xs.length * sh.size := Nat.mul_pos hp hsz
            have h0 : (xs.flatMap AV.cells)[0]? = some ((xs.flatMap AV.cells)[0]'(by omega)) := List.getElem?_eq_getElem (by omega)
            exact ⟨_, _, hrow 0 _ h0⟩
    · cases h
  case slR k ver off len sz ag =>
    split at h
    · cases h
    · rename_i hk
      rw [Nat.beq_eq] at hk
      split at h
      · rename_i ver' var cs hget
        split at h
        · rename_i hc
          simp only [Bool.and_eq_true, Nat.beq_eq, Nat.ble_eq] at hc
          obtain ⟨⟨rfl, rfl⟩, hle⟩ := hc
          simp only [Option.some.injEq, Prod.mk.injEq] at h
          obtain ⟨rfl, rfl⟩ := h
          have hm := hos k _ hget
          simp only [R] at hr
          rcases hr with ⟨hi, rfl, rfl, rfl⟩ | ⟨b, s, c, hi, rfl, hlc, hsz⟩
          · exact ⟨[], ⟨by simp [RL], by simp, fun w' => by simp [Builtin.lenOf], fun w' _ => by simp [Builtin.firstCells]⟩, fun _ => .inl rfl⟩
          · rcases hw.objs k _ hm with ⟨h1, _⟩ | ⟨b', s', h1, hrow⟩
            · rw [hi] at h1; cases h1
            · have hi' := hi
              rw [hi] at h1
              simp only [Option.some.injEq, Pl.at.injEq] at h1
              obtain ⟨rfl, rfl⟩ := h1
              obtain ⟨C, el, hC, hCs, hl, hcells⟩ := hrow
              have hvl : ((C.toList.drop off).take (len * sh.size)).length = len * sh.size := by simp; omega
              refine ⟨(C.toList.drop off).take (len * sh.size), ⟨?_, ?_, fun w' => by simp [Builtin.lenOf], fun w' hh => ?_⟩, fun _ => .inr ⟨b, off, c, rfl, ⟨C, el, _, hC, by omega⟩, .inr ⟨k, hk, _, s, hm, hi'⟩⟩⟩
              · refine RL_mk (by simp; omega) fun j x v hx hv => ?_
                rw [List.getElem?_take] at hx hv
                split at hx
                · rename_i hj
                  simp only [hj, if_true] at hv
                  rw [List.getElem?_drop] at hx hv
                  obtain ⟨u, h1, h2, _⟩ := hcells _ x hx
                  have : C[off + j]? = some v := by simpa using hv
                  rw [h1] at this
                  simp only [Option.some.injEq] at this; subst this; exact h2
                · cases hx
              · simp; omega
              · have hlc := run_loadCells_list (P := P) w' ⟨b, off, none⟩ ((C.toList.drop off).take (len * sh.size)) (fun j v hj => by
                  rw [List.getElem?_take] at hj
                  split at hj
                  · rw [List.getElem?_drop] at hj
                    rw [addr_add, cell_of_heap (w := w) (w' := w') (by rw [hh])]
                    have : C[off + j]? = some v := by simpa using hj
                    simp [World.cell?, hC, this]
                  · cases hj)
                rw [hvl] at hlc
                simp only [Builtin.firstCells, hlc]
        · cases h
      · cases h

end Go.Va
/-! The operations that make an object: what the model does. -/
namespace Go.Va

variable {P : Program} {g g' : G}

/-- what an operation that makes at most one object leaves behind -/
def Makes (P : Program) (g : G) (m : Mem) (w : World) (nk : Nat) (s : Sem Next) (v : AV) (ob : Option Obj) : Prop :=
  ∃ cv w' g', s.run P w = .ok (.value cv) w' ∧ R g' v cv ∧ WOk g' (updo m nk ob) w' ∧ Full g g' ∧ ∀ c, Tr c (· = nk) g m w g' (updo m nk ob) w'

theorem makes_new {m : Mem} {w : World} (hw : WOk g m w) {nk : Nat} (hn : ∀ ver, g.inj nk ver = none) {s : Sem Next} {v : AV} {var : Bool} {cs : List AV} {C : Array Value} {el : TypeId} {cv : Value}
    {w0 : World} (h0 : w0.heap = w.heap) (hb : Beside w w0)
    (hrun : s.run P w = .ok (.value cv) (w0.alloc (.cells C el))) (hr : RL g cs (C.toList.take cs.length)) (hs : scalars cs = true) (hl : cs.length ≤ C.size)
    (hv : R (g.place nk 0 (.at w.heap.size C.size)) v cv) : Makes P g m w nk s v (some (.arr 0 var cs)) := by
  have hw0 := hw.sameHeap h0
  have e : w0.heap.size = w.heap.size := by rw [h0]
  have key := fun c => hw0.newRow (nk := nk) hn var (el := el) hr hs hl c
  rw [e] at key
  refine ⟨cv, _, _, hrun, hv, (key 0).1, Full.place _ (hn 0), fun c => ?_⟩
  have h1 : Tr c (fun _ => False) g m w g m w0 := Tr.sameHeap h0 hb
  exact (h1.trans (key c).2 (Nat.le_refl c)).weaken (Nat.le_refl c) (fun k _ hk => hk.elim (fun x => x.elim) id)

theorem run_newVar {t : TypeId} {v : Value} (w : World) : (newVar t v).run P w = .ok ⟨w.heap.size, 0, none⟩ (w.alloc (.cells v.cells t)) := by
  simp [newVar, newRow]

theorem nextslicecap_zero {n : Nat} (h : n ≠ 0) : Builtin.nextslicecap n 0 = n := by
  unfold Builtin.nextslicecap
  rw [if_pos (by omega)]

theorem room_int {l : Nat} {by_ : Nat} (h : roomOk l by_ = true) : ((by_ : Int) * (l : Int) ≤ 2 ^ 48) ∧ l * by_ ≤ 2 ^ 48 := by
  unfold roomOk at h
  rw [Nat.ble_eq] at h
  have h' : l * by_ ≤ 2 ^ 48 := h
  refine ⟨?_, h'⟩
  rw [Int.mul_comm]
  exact_mod_cast h'

theorem zeroAny_spec {e : TypeId} {n : Nat} (h : agOp.zeroOkAny P e n = true) : ∃ z, (∀ w : World, (zeroValue e).run P w = .ok z w) ∧ z.cells.size = n ∧ ∀ v ∈ z.cells.toList, v.oneCell' = true := by
  unfold agOp.zeroOkAny at h
  cases hi : P.info? e with
  | none => simp [hi] at h
  | some i =>
    simp only [hi] at h
    cases hz : i.zero with
    | none => simp [hz] at h
    | some z =>
      simp only [hz, Bool.and_eq_true, Nat.beq_eq, List.all_eq_true] at h
      exact ⟨z, fun w => run_zeroValue hi hz w, h.1, h.2⟩

/-- append to nothing, at n elements -/
theorem run_appN {t u e : TypeId} {sh : Sh} {by_ n : Nat} (he : sliceElem P t = some e) (hue : (sliceElem P u).isSome = true) (hsh : shOk P e sh = true) (hby : byIs P e by_ = true) (hby0 : 0 < by_)
    (hz : agOp.zeroOkAny P e sh.size = true) {a : Option Addr} {y : Value} {ty : TypeId} {ts : Array TypeId} (h0 : ts[0]? = some t) (h1 : ts[1]? = some u) {w : World} {src : List AV} {vs : List Value}
    (hsrc : Src P g w sh.size n y src vs) (hn : n ≠ 0) (hroom : roomOk n by_ = true) :
    ∃ (w0 : World) (cap : Nat) (rest : Array Value), w0.heap = w.heap ∧ Beside w w0 ∧ n ≤ cap ∧ (vs.toArray ++ rest).size = cap * sh.size ∧
      (Builtin.append_ ts ty #[.slice a 0 0, y]).run P w = .ok (.slice (some ⟨w.heap.size, 0, none⟩) n cap) (w0.alloc (.cells (vs.toArray ++ rest) e)) := by
  have hu := sliceElem_spec he
  obtain ⟨u', hu'⟩ := Option.isSome_iff_exists.1 hue
  have huu := sliceElem_spec hu'
  obtain ⟨hsz, hs0, _⟩ := shOk_spec hsh
  obtain ⟨i, hi, hib⟩ := byIs_run hby
  obtain ⟨z, hzr, hzs, _⟩ := zeroAny_spec hz
  obtain ⟨_, hr2⟩ := room_int hroom
  have hforced : (Question.appendCap n 0 e).forced = false := rfl
  let cap := (Question.appendCap n 0 e).cut (w.tape w.drawn (.appendCap n 0 e))
  have hcap : n ≤ cap := by
    show n ≤ n + _
    omega
  refine ⟨w.drew, cap, Builtin.zeroCells z.cells (cap - n), rfl, Beside.drew w, hcap, ?_, ?_⟩
  · have hl : vs.length = n * sh.size := by rw [← RL_len hsrc.rel, hsrc.len]
    simp only [Builtin.zeroCells, Array.size_append, List.size_toArray, Array.size_map, Array.size_range, hl, hzs]
    rw [← Nat.add_mul]
    congr 1
    omega
  · have hfirst0 : ∀ w' : World, (Builtin.firstCells sh.size 0 (.slice a 0 0)).run P w' = .ok #[] w' := by
      intro w'
      cases a with
      | none => simp [Builtin.firstCells]
      | some a => simp [Builtin.firstCells, loadCells, loadCellsFrom]
    have hnn : ¬ (n = 0) := hn
    have hcond : ¬ (n * by_ > 2 ^ 48) := by omega
    have hb0 : ¬ by_ = 0 := by omega
    have hti : ∀ w' : World, (typeInfo e).run P w' = .ok i w' := fun w' => run_typeInfo w' hi
    have hc1 := hfirst0 w.drew
    have hc2 := hsrc.first w.drew rfl
    simp only [Builtin.append_, h0, h1, Sem.run_bind, run_underlying hu, run_underlying huu, Result.andThen_ok, szIs_run hsz w, Sem.run_pure, hsrc.lenOf, List.getElem?_toArray, List.getElem?_cons_zero, List.getElem?_cons_succ,
      Bool.false_eq_true, if_false, Nat.zero_add, Nat.le_zero_eq, hnn, Sem.run_ite, hti, hib, hb0, or_false, and_false, nextslicecap_zero hn, hcond,
      run_choose, hforced, run_askRoom, World.drew_eq, hc1, hc2, Bool.not_false, if_true, hzr, newRow, run_newObj, World.alloc_eq, Array.empty_append]
    rfl

theorem wrap_small {n : Nat} (h : n ≤ 281474976710656) : IntKind.i64.wrap (n : Int) = (n : Int) := IntWalk.i64_in _ (by omega)

theorem range0 (f h : Nat → Value) : (Array.range 0).map f = (Array.range 0).map h := by simp

/-- append of nothing -/
theorem run_app0 {t u e : TypeId} {sh : Sh} (he : sliceElem P t = some e) (hue : (sliceElem P u).isSome = true) (hsh : shOk P e sh = true) {base : Option Addr} {l c : Nat} {y : Value} {ty : TypeId} {ts : Array TypeId}
    (h0 : ts[0]? = some t) (h1 : ts[1]? = some u) {w : World} {src : List AV} {vs : List Value} (hsrc : Src P g w sh.size 0 y src vs) (hl : l ≤ c) :
    (Builtin.append_ ts ty #[.slice base l c, y]).run P w = .ok (.slice base l c) w := by
  have hu := sliceElem_spec he
  obtain ⟨u', hu'⟩ := Option.isSome_iff_exists.1 hue
  have huu := sliceElem_spec hu'
  obtain ⟨hsz, hs0, _⟩ := shOk_spec hsh
  have hvs : vs = [] := by
    have := RL_len hsrc.rel
    rw [hsrc.len] at this
    exact List.eq_nil_of_length_eq_zero (by omega)
  have hc2 := hsrc.first w rfl
  rw [hvs] at hc2
  simp only [Builtin.append_, h0, h1, Sem.run_bind, run_underlying hu, run_underlying huu, Result.andThen_ok, szIs_run hsz w, Sem.run_pure, hsrc.lenOf, List.getElem?_toArray, List.getElem?_cons_zero, List.getElem?_cons_succ,
    Bool.false_eq_true, if_false, Nat.add_zero, hl, if_true, Sem.run_ite, Bool.not_false, hc2]
  cases base <;> simp [storeCells]

theorem run_appZ0 {t u e : TypeId} {sh : Sh} {by_ : Nat} (he : sliceElem P t = some e) (hue : (isInt P u).isSome = true) (hsh : shOk P e sh = true) (hby : byIs P e by_ = true) {a : Option Addr} {k : IntKind} {ty : TypeId} {ts : Array TypeId}
    (h0 : ts[0]? = some t) (h1 : ts[1]? = some u) (w : World) :
    (Builtin.append_ ts ty #[.slice a 0 0, .int k ((0 : Nat) : Int)]).run P w = .ok (.slice a 0 0) w := by
  have hu := sliceElem_spec he
  obtain ⟨ku, hku⟩ := Option.isSome_iff_exists.1 hue
  have huu : P.underlying u = some (.int ku) := by
    unfold isInt at hku
    split at hku
    · rename_i k' hk'
      simp only [Option.some.injEq] at hku; subst hku; exact hk'
    · cases hku
  obtain ⟨hsz, hs0, _⟩ := shOk_spec hsh
  obtain ⟨i, hi, hib⟩ := byIs_run hby
  have w1 := wrap_small (n := 0) (by omega)
  simp only [Int.natCast_zero] at w1 ⊢
  simp only [Builtin.append_, h0, h1, Sem.run_bind, run_underlying hu, run_underlying huu, Result.andThen_ok, szIs_run hsz w, Sem.run_pure, List.getElem?_toArray, List.getElem?_cons_zero, List.getElem?_cons_succ,
    if_true, asInt, asIntOf, w1, Sem.run_ite, run_typeInfo w hi, Int.zero_mul, Nat.zero_mul, Bool.not_true, Bool.false_eq_true, if_false]
  cases a <;> simp [storeCells]

theorem run_appZ {t u e : TypeId} {sh : Sh} {by_ n : Nat} (he : sliceElem P t = some e) (hue : (isInt P u).isSome = true) (hsh : shOk P e sh = true) (hby : byIs P e by_ = true) (hby0 : 0 < by_) {z : Value} (hzr : ∀ w : World, (zeroValue e).run P w = .ok z w)
    {a : Option Addr} {k : IntKind} {ty : TypeId} {ts : Array TypeId} (h0 : ts[0]? = some t) (h1 : ts[1]? = some u) {w : World} (hn : n ≠ 0) (hroom : roomOk n by_ = true) :
    ∃ (w0 : World) (cap : Nat), w0.heap = w.heap ∧ Beside w w0 ∧ n ≤ cap ∧
      (Builtin.append_ ts ty #[.slice a 0 0, .int k (n : Int)]).run P w = .ok (.slice (some ⟨w.heap.size, 0, none⟩) n cap) (w0.alloc (.cells (Builtin.zeroCells z.cells n ++ Builtin.zeroCells z.cells (cap - n)) e)) := by
  have hu := sliceElem_spec he
  obtain ⟨ku, hku⟩ := Option.isSome_iff_exists.1 hue
  have huu : P.underlying u = some (.int ku) := by
    unfold isInt at hku
    split at hku
    · rename_i k' hk'
      simp only [Option.some.injEq] at hku; subst hku; exact hk'
    · cases hku
  obtain ⟨hsz, hs0, _⟩ := shOk_spec hsh
  obtain ⟨i, hi, hib⟩ := byIs_run hby
  obtain ⟨hr1, hr2⟩ := room_int hroom
  have hnb : n ≤ 281474976710656 := Nat.le_trans (Nat.le_mul_of_pos_right n hby0) hr2
  have hforced : (Question.appendCap n 0 e).forced = false := rfl
  let cap := (Question.appendCap n 0 e).cut (w.tape w.drawn (.appendCap n 0 e))
  have hcap : n ≤ cap := by
    show n ≤ n + _
    omega
  refine ⟨w.drew, cap, rfl, Beside.drew w, hcap, ?_⟩
  have hfirst0 : ∀ w' : World, (Builtin.firstCells sh.size 0 (.slice a 0 0)).run P w' = .ok #[] w' := by
    intro w'
    cases a with
    | none => simp [Builtin.firstCells]
    | some a => simp [Builtin.firstCells, loadCells, loadCellsFrom]
  have hnn : ¬ (n = 0) := hn
  have hcond : ¬ (n * by_ > 2 ^ 48) := by omega
  have c1 : ¬ ((n : Int) < 0) := by omega
  have c2 : ¬ ((n : Int) * (by_ : Int) > 2 ^ 48) := by rw [Int.mul_comm]; omega
  have c3 : ¬ ((n : Int) > IntKind.i64.max) := by
    have : IntKind.i64.max = 9223372036854775807 := by decide
    rw [this]; omega
  have c4 : ¬ (n * sh.size = 0) := by
    intro h
    rcases Nat.mul_eq_zero.1 h with h | h <;> omega
  have hti : ∀ w' : World, (typeInfo e).run P w' = .ok i w' := fun w' => run_typeInfo w' hi
  have hc1 := hfirst0 w.drew
  have w1 := wrap_small hnb
  simp only [Builtin.append_, h0, h1, Sem.run_bind, run_underlying hu, run_underlying huu, Result.andThen_ok, szIs_run hsz w, Sem.run_pure, List.getElem?_toArray, List.getElem?_cons_zero, List.getElem?_cons_succ,
    if_true, asInt, asIntOf, w1, c1, if_false, Sem.run_ite, hti, hib, c2, Int.toNat_natCast, Nat.zero_add, Nat.le_zero_eq, hnn, c3, false_and, nextslicecap_zero hn, hcond,
    run_choose, hforced, run_askRoom, World.drew_eq, hc1, Bool.not_true, Bool.false_eq_true, c4, hzr, newRow, run_newObj, World.alloc_eq, Array.empty_append]
  rfl

theorem alloc_ok {o : Oper} {ao : AOp} {t : T} {a : Act} {w : World} {os : Objs} {m : Mem} {nk : Nat} (hag : agOp P o.op ao = true) (ht : TOn g t a.tmps ao.uses) (hw : WOk g m w)
    (hos : ∀ k o, os.get k = some o → m k = some o) (hn : ∀ ver, g.inj nk ver = none) {v : AV} {ob : Option Obj} (hv : allocV t os nk ao = some (v, ob)) : Makes P g m w nk (execOp a.eval o) v ob := by
  have hpl : ∀ p, (g.place nk 0 p).inj nk 0 = some p := fun p => G.place_same _ _ _
  obtain ⟨dst, op, ty, pos, after, guard⟩ := o
  simp only at hag
  cases ao <;> simp only [allocV, reduceCtorEq] at hv <;> simp only [agOp] at hag
  case nilv sh =>
    simp only [Option.some.injEq, Prod.mk.injEq] at hv
    obtain ⟨rfl, rfl⟩ := hv
    split at hag
    · have hf := Full.place (g := g) (k := nk) (ver := 0) .nil (hn 0)
      have key := fun c => hw.put (k := nk) (b := w.heap.size) (ob := .arr 0 false []) (w' := w) hf rfl rfl (fun k' hk ver => G.place_other _ hk ver) (Nat.le_refl _) (Beside.refl w) (fun _ _ _ => rfl) (fun h => absurd h (Nat.lt_irrefl _))
        (.inl ⟨G.place_same _ _ _, rfl⟩) (by intro b' s hi; simp only [Obj.ver] at hi; rw [G.place_same] at hi; cases hi) (fun v hv => by simp only [G.place]; rw [if_neg (by simp only [Obj.ver] at hv; omega)]; exact hn v) c
      exact ⟨.slice none 0 0, w, _, by simp [execOp, Act.eval], by simp [R, hpl], (key 0).1, hf, fun c => (key c).2⟩
    · cases hag
  case alloc cs =>
    simp only [Option.some.injEq, Prod.mk.injEq] at hv
    obtain ⟨rfl, rfl⟩ := hv
    split at hag
    · rename_i t0
      obtain ⟨z, hz, hzl, hzs⟩ := zeroOk_spec (g := g) hag
      have hl := RL_len hzl
      refine makes_new hw hn (w0 := w) rfl (Beside.refl w) (C := z.cells) (el := t0) (cv := .pointer (some ⟨w.heap.size, 0, none⟩)) ?_ ?_ hzs (by simp at hl; omega) ?_
      · simp [execOp, Instr.alloc, hz, run_newVar]
      · rw [hl, List.take_length]; exact hzl
      · simp only [R]; exact ⟨_, _, hpl _, rfl⟩
    · cases hag
  case box y =>
    split at hv
    · rename_i hsc
      simp only [Option.some.injEq, Prod.mk.injEq] at hv
      obtain ⟨rfl, rfl⟩ := hv
      split at hag
      · rename_i t0 x
        have hr := agOpd_R hag ht
        have hc := R_cells hr hsc
        have hl := RL_len hc
        refine makes_new hw hn (w0 := w) rfl (Beside.refl w) (C := (a.eval x).cells) (el := t0) (cv := .pointer (some ⟨w.heap.size, 0, none⟩)) ?_ ?_ hsc (by simp at hl; omega) ?_
        · simp [execOp, Instr.box, run_newVar]
        · rw [hl, List.take_length]; exact hc
        · simp only [R]; exact ⟨_, _, hpl _, rfl⟩
      · cases hag
    · cases hv
  case mkMap =>
    simp only [Option.some.injEq, Prod.mk.injEq] at hv
    obtain ⟨rfl, rfl⟩ := hv
    split at hag
    · rename_i t0
      have hf := Full.place (g := g) (k := nk) (ver := 0) (.at w.heap.size 0) (hn 0)
      have key := fun c => hw.put (k := nk) (b := w.heap.size) (ob := .map [] []) (w' := w.alloc (.map #[] 0)) hf rfl rfl (fun k' hk ver => G.place_other _ hk ver) (by simp) (Beside.alloc w _) (fun b' h _ => heap_alloc_lt w _ h) (fun h => absurd h (Nat.lt_irrefl _))
        ⟨w.heap.size, 0, #[], G.place_same _ _ _, heap_alloc_new w _, rfl, rfl, fun i e he => by simp at he⟩ (by intro b' s hi; simp only [Obj.ver] at hi; rw [G.place_same] at hi; simp only [Option.some.injEq, Pl.at.injEq] at hi; exact hi.1.symm) (fun v hv => by simp only [G.place]; rw [if_neg (by simp only [Obj.ver] at hv; omega)]; exact hn v) c
      refine ⟨.map (some w.heap.size), _, _, by simp only [execOp, Instr.makeMap, Option.map_none, Sem.run_bind, run_newObj, Result.andThen_ok, Sem.run_pure, World.alloc_eq], by simp only [R]; exact ⟨_, _, hpl _, rfl⟩, (key 0).1, hf, fun c => (key c).2⟩
    · cases hag
  case mkSlice zero sh by_ l c =>
    split at hag
    · rename_i t0 l' c'
      simp only [Bool.and_eq_true] at hag
      obtain ⟨⟨he, hl'⟩, hc'⟩ := hag
      split at he
      · rename_i e hel
        simp only [Bool.and_eq_true, Nat.beq_eq, Nat.blt_eq] at he
        obtain ⟨⟨⟨⟨hsh, hz⟩, hby⟩, hzn⟩, hby0⟩ := he
        obtain ⟨hsz, h0, _⟩ := shOk_spec hsh
        obtain ⟨z, hzr, hzl, hzs⟩ := zeroOk_spec (g := g) hz
        obtain ⟨i, hi, hib⟩ := byIs_run hby
        split at hv
        · rename_i ln cn hln hcn
          split at hv
          · rename_i hcond
            simp only [Bool.and_eq_true, Nat.ble_eq] at hcond
            obtain ⟨hlc, hroom⟩ := hcond
            simp only [Option.some.injEq, Prod.mk.injEq] at hv
            obtain ⟨rfl, rfl⟩ := hv
            have hlr := agOpd_R hl' (ht.sub (fun n hn => by simp only [AOp.uses, List.mem_append]; exact .inl hn))
            have hcr := agOpd_R hc' (ht.sub (fun n hn => by simp only [AOp.uses, List.mem_append]; exact .inr hn))
            obtain ⟨k1, hk1⟩ := R_nat hln hlr
            obtain ⟨k2, hk2⟩ := R_nat hcn hcr
            obtain ⟨hr1, hr2⟩ := room_int hroom
            have hzsz : z.cells.size = sh.size := by rw [← hzn]; simpa using (RL_len hzl).symm
            have hu := sliceElem_spec hel
            have hcb : cn ≤ 281474976710656 := Nat.le_trans (Nat.le_mul_of_pos_right cn hby0) hr2
            have hzero := zeros_RL (n := cn) hzl (by omega)
            rw [hzsz] at hzero
            have hrl : (replicateCells zero cn).length = cn * sh.size := by rw [replicate_length, hzn]
            refine makes_new hw hn (w0 := w) rfl (Beside.refl w) (C := (Array.range (cn * sh.size)).map fun i => z.cells[i % sh.size]!) (el := e) (cv := .slice (some ⟨w.heap.size, 0, none⟩) ln cn) ?_ ?_ (replicate_scalars hzs cn) (by simp [hrl]) ?_
            · skip
              have w1 := wrap_small (n := ln) (by omega)
              have w2 := wrap_small (n := cn) hcb
              have c1 : ¬ ((cn : Int) < 0) := by omega
              have c2 : ¬ ((ln : Int) < 0) := by omega
              have c3 : ¬ ((ln : Int) > (cn : Int)) := by omega
              have c4 : ¬ ((by_ : Int) * (cn : Int) > 2 ^ 48) := by omega
              simp only [execOp, Instr.makeSlice, Sem.run_bind, run_underlying hu, Result.andThen_ok, hk1, hk2, asInt, asIntOf, Sem.run_pure, run_typeInfo w hi, hib, w1, w2, Bool.or_eq_true, decide_eq_true_eq, c1, c2, c3, c4, or_self, if_false, run_askRoom, szIs_run hsz w, Int.toNat_natCast, newRow]
              rw [Sem.run_ite]
              split
              · rename_i hz'
                simp only [Sem.run_bind, Sem.run_pure, Result.andThen_ok, run_newObj, World.alloc_eq, hz']
                exact congrArg (fun x => Result.ok (Next.value (Value.slice (some ⟨w.heap.size, 0, none⟩) ln cn)) (w.alloc (Go.Obj.cells x e))) (range0 _ _)
              · simp [hzr, hzsz]
            · rw [hrl]
              simpa [List.take_of_length_le] using hzero
            · simp only [R]
              exact .inr ⟨_, _, cn, hpl _, rfl, hlc, by simp⟩
          · cases hv
        · cases hv
      · cases he
    · cases hag
  case mkSl zero sh len ps =>
    split at hag
    · rename_i t0 n parts
      simp only [Bool.and_eq_true, Nat.beq_eq] at hag
      obtain ⟨rfl, he⟩ := hag
      split at he
      · rename_i e hel
        simp only [Bool.and_eq_true, Nat.beq_eq, Nat.ble_eq] at he
        obtain ⟨⟨⟨⟨hsh, hz⟩, hzn⟩, hbig⟩, hps⟩ := he
        obtain ⟨hsz, h0, _⟩ := shOk_spec hsh
        obtain ⟨z, hzr, hzl, hzs⟩ := zeroOk_spec (g := g) hz
        have hu := sliceElem_spec hel
        split at hv
        · rename_i cs hcs
          have hzsz : z.cells.size = sh.size := by rw [← hzn]; simpa using (RL_len hzl).symm
          have hzero := zeros_RL (n := n) hzl (by omega)
          rw [hzsz] at hzero
          obtain ⟨us, hus, hur⟩ := fill_R (g := g) (fun i => some (i * sh.size, sh.size)) (a := a) (elemsParts sh.size hps) (by
            intro k hk
            refine ht k ?_
            simp only [AOp.uses, List.mem_flatMap] at hk ⊢
            obtain ⟨p, hp, hk⟩ := hk
            simp only [List.mem_map] at hp
            obtain ⟨q, hq, rfl⟩ := hp
            exact ⟨q, hq, hk⟩) hzero (by rw [List.map_map]; exact hcs)
          have hlen : cs.length = n * sh.size := by rw [fillV_len hcs, replicate_length, hzn]
          have hsc := fillV_scalars hcs (replicate_scalars hzs n)
          have hrun : (execOp a.eval { dst, op := .buildSlice t0 n parts, type := ty, pos, after, guard }).run P w = .ok (.value (.slice (some ⟨w.heap.size, 0, none⟩) n n)) (w.alloc (.cells us.toArray e)) := by
            have hfill : Instr.fill (fun i => some (i * sh.size, sh.size)) ((Array.range (n * sh.size)).map fun i => z.cells[i % sh.size]!) (parts.map fun (i, x) => (i, a.eval x)).toList = some us.toArray := by
              have e1 : ((Array.range (n * sh.size)).map fun i => z.cells[i % sh.size]!).toList.toArray = (Array.range (n * sh.size)).map fun i => z.cells[i % sh.size]! := Array.toArray_toList
              rw [e1] at hus
              rw [← hus]
              congr 1
              simp
            simp only [execOp, Instr.buildSlice, Sem.run_bind, run_underlying hu, Result.andThen_ok, szIs_run hsz w]
            rw [Sem.run_ite, if_neg (by omega)]
            simp only [newRow]
            rw [Sem.run_ite]
            split
            · rename_i hz'
              rw [hz'] at hfill
              have e3 : Instr.fill (fun i => some (i * sh.size, sh.size)) ((Array.range 0).map fun i => (#[] : Array Value)[i % (#[] : Array Value).size]!) (parts.map fun (i, x) => (i, a.eval x)).toList = some us.toArray := by
                rw [← hfill, range0]
              simp only [Sem.run_bind, Sem.run_pure, Result.andThen_ok, hz', e3, run_newObj, World.alloc_eq]
            · simp only [Sem.run_bind, Sem.run_pure, Result.andThen_ok, hzr, hzsz, hfill, run_newObj, World.alloc_eq]
          split at hv
          · rename_i ds hds
            split at hv
            · rename_i xs hxs
              simp only [Option.some.injEq, Prod.mk.injEq] at hv
              obtain ⟨rfl, rfl⟩ := hv
              have hdr := RL_data (g' := g) ⟨fun _ _ _ h => h, fun _ _ h => h⟩ hds hur
              have hdsc := datas_scalars hds hsc
              have key := fun c => hw.newFixed (el := e) (C := us.toArray) (by simpa using hdr) hdsc (datas_datas hds) c
              obtain ⟨hxl, _⟩ := elemsOf_spec hxs hdsc
              refine ⟨_, _, _, hrun, ?_, (key 0).1, (key 0).2.2, fun c => (key c).2.1.weaken (Nat.le_refl c) (fun k _ h => h.elim)⟩
              simp only [R]
              refine ⟨_, n, by rw [hxl], by omega, fun _ => hxl.symm, fun _ => ⟨w.heap.size, 0, sh.size, rfl, elems_imm hxs hdsc (fix_row _ _ _)⟩⟩
            · cases hv
          · simp only [Option.some.injEq, Prod.mk.injEq] at hv
            obtain ⟨rfl, rfl⟩ := hv
            have hul := RL_len hur
            refine makes_new hw hn (w0 := w) rfl (Beside.refl w) hrun (by simp only [hul, List.take_length]; exact hur) hsc (by simp [hul]) ?_
            simp only [R]
            exact .inr ⟨_, _, n, hpl _, rfl, Nat.le_refl _, by simp; omega⟩
        · cases hv
      · cases he
    · cases hag
  case appN sh by_ x y =>
    split at hag
    · rename_i as ts
      split at hag
      · rename_i x' y' t0 u0 has h0 h1
        simp only [Bool.and_eq_true] at hag
        obtain ⟨⟨⟨he, hue⟩, hx⟩, hy⟩ := hag
        split at he
        · rename_i e hel
          simp only [Bool.and_eq_true, Nat.blt_eq] at he
          obtain ⟨⟨⟨hsh, hby⟩, hby0⟩, hz⟩ := he
          have has' : as = #[x', y'] := by apply Array.ext'; simpa using has
          subst has'
          have hxr := agOpd_R hx (ht.sub (fun n hn => by simp only [AOp.uses, List.mem_append]; exact .inl hn))
          have hyr := agOpd_R hy (ht.sub (fun n hn => by simp only [AOp.uses, List.mem_append]; exact .inr hn))
          generalize Opd.ev t x = xa at *
          generalize Opd.ev t y = ya at *
          unfold appNV at hv
          split at hv
          · simp only [R] at hxr
            obtain ⟨ad, c, hxv, hc, hlim, _⟩ := hxr
            have hc0 : c = 0 := hlim trivial
            subst hc0
            split at hv
            · rename_i n src hsrc
              obtain ⟨vs, hS, _⟩ := run_src (P := P) hw hos hsrc hyr
              split at hv
              · rename_i hn0
                rw [Nat.beq_eq] at hn0; subst hn0
                simp only [Option.some.injEq, Prod.mk.injEq] at hv
                obtain ⟨rfl, rfl⟩ := hv
                have hrun := run_app0 (base := ad) (l := 0) (c := 0) hel hue hsh (ty := ty) h0 h1 hS (Nat.le_refl _)
                refine ⟨.slice ad 0 0, w, g, ?_, by simp only [R]; exact ⟨ad, 0, rfl, by simp, by simp, fun h => absurd rfl h⟩, hw, Full.refl g, fun c => Tr.refl c _ g m w⟩
                simp only [execOp, resolve, invoke, builtin, Sem.run_bind, Sem.run_pure, Result.andThen_ok]
                have e2 : (#[x', y'] : Array Operand).map a.eval = #[.slice ad 0 0, a.eval y'] := by simp [hxv]
                rw [e2, hrun]
                rfl
              · rename_i hn0
                rw [Nat.beq_eq] at hn0
                split at hv
                · rename_i hc
                  simp only [Bool.and_eq_true] at hc
                  simp only [Option.some.injEq, Prod.mk.injEq] at hv
                  obtain ⟨rfl, rfl⟩ := hv
                  obtain ⟨w0, cap, rest, hw0, hb0, hcap, hsize, hrun⟩ := run_appN hel hue hsh hby hby0 hz (a := ad) (ty := ty) h0 h1 hS hn0 hc.1
                  have hvl : vs.length = src.length := (RL_len hS.rel).symm
                  refine makes_new hw hn hw0 hb0 (C := vs.toArray ++ rest) (el := e) (cv := .slice (some ⟨w.heap.size, 0, none⟩) n cap) ?_ ?_ hc.2 (by simp [hvl]) ?_
                  · simp only [execOp, resolve, invoke, builtin, Sem.run_bind, Sem.run_pure, Result.andThen_ok]
                    have e2 : (#[x', y'] : Array Operand).map a.eval = #[.slice ad 0 0, a.eval y'] := by simp [hxv]
                    rw [e2, hrun]
                    rfl
                  · rw [← hvl]; simpa using hS.rel
                  · simp only [R]
                    exact .inr ⟨_, _, cap, hpl _, rfl, hcap, by rw [hsize]; omega⟩
                · cases hv
            · cases hv
          · cases hv
        · cases he
      · cases hag
    · cases hag
  case appZ zero sh by_ x n =>
    split at hag
    · rename_i as ts
      split at hag
      · rename_i x' y' t0 u0 has h0 h1
        simp only [Bool.and_eq_true] at hag
        obtain ⟨⟨⟨he, hue⟩, hx⟩, hy⟩ := hag
        split at he
        · rename_i e hel
          simp only [Bool.and_eq_true, Nat.blt_eq, Nat.beq_eq] at he
          obtain ⟨⟨⟨⟨hsh, hby⟩, hby0⟩, hz⟩, hzn⟩ := he
          have has' : as = #[x', y'] := by apply Array.ext'; simpa using has
          subst has'
          have hxr := agOpd_R hx (ht.sub (fun n hn => by simp only [AOp.uses, List.mem_append]; exact .inl hn))
          have hyr := agOpd_R hy (ht.sub (fun n hn => by simp only [AOp.uses, List.mem_append]; exact .inr hn))
          generalize Opd.ev t x = xa at *
          generalize Opd.ev t n = ya at *
          unfold appZV at hv
          split at hv
          · rename_i nn hnn
            simp only [R] at hxr
            obtain ⟨ad, c, hxv, hc, hlim, _⟩ := hxr
            have hc0 : c = 0 := hlim trivial
            subst hc0
            obtain ⟨k, hk⟩ := R_nat hnn hyr
            have e2 : (#[x', y'] : Array Operand).map a.eval = #[.slice ad 0 0, .int k nn] := by simp [hxv, hk]
            obtain ⟨z, hzr, hzl, hzs⟩ := zeroOk_spec (g := g) hz
            have hzsz : z.cells.size = sh.size := by rw [← hzn]; simpa using (RL_len hzl).symm
            split at hv
            · rename_i hn0
              rw [Nat.beq_eq] at hn0; subst hn0
              simp only [Option.some.injEq, Prod.mk.injEq] at hv
              obtain ⟨rfl, rfl⟩ := hv
              have hrun := run_appZ0 (a := ad) (k := k) hel hue hsh hby (ty := ty) h0 h1 w
              refine ⟨.slice ad 0 0, w, g, ?_, by simp only [R]; exact ⟨ad, 0, rfl, by simp, by simp, fun h => absurd rfl h⟩, hw, Full.refl g, fun c => Tr.refl c _ g m w⟩
              simp only [execOp, resolve, invoke, builtin, Sem.run_bind, Sem.run_pure, Result.andThen_ok]
              rw [e2]
              simp only [Int.natCast_zero] at hrun ⊢
              rw [hrun]
              rfl
            · rename_i hn0
              rw [Nat.beq_eq] at hn0
              split at hv
              · rename_i hroom
                simp only [Option.some.injEq, Prod.mk.injEq] at hv
                obtain ⟨rfl, rfl⟩ := hv
                obtain ⟨w0, cap, hw0, hb0, hcap, hrun⟩ := run_appZ (a := ad) (k := k) hel hue hsh hby hby0 hzr (ty := ty) h0 h1 (w := w) hn0 hroom
                have hzero := zeros_RL (n := nn) hzl (by have := (shOk_spec hsh).2.1; omega)
                have hrl : (replicateCells zero nn).length = nn * sh.size := by rw [replicate_length, hzn]
                refine makes_new hw hn hw0 hb0 (C := Builtin.zeroCells z.cells nn ++ Builtin.zeroCells z.cells (cap - nn)) (el := e) (cv := .slice (some ⟨w.heap.size, 0, none⟩) nn cap) ?_ ?_ (replicate_scalars hzs nn) ?_ ?_
                · simp only [execOp, resolve, invoke, builtin, Sem.run_bind, Sem.run_pure, Result.andThen_ok]
                  rw [e2, hrun]
                  rfl
                · have hl : (Builtin.zeroCells z.cells nn).toList.length = nn * sh.size := by simp [Builtin.zeroCells, hzsz]
                  rw [hrl, Array.toList_append, ← hl, List.take_left]
                  exact hzero
                · simp [hrl, Builtin.zeroCells, hzsz]
                · simp only [R]
                  refine .inr ⟨_, _, cap, hpl _, rfl, hcap, ?_⟩
                  have e3 : (nn + (cap - nn)) * sh.size = nn * sh.size + (cap - nn) * sh.size := Nat.add_mul _ _ _
                  have e4 : nn + (cap - nn) = cap := by omega
                  rw [e4] at e3
                  simp [Builtin.zeroCells, hzsz]
                  omega
              · cases hv
          · cases hv
        · cases he
      · cases hag
    · cases hag

end Go.Va
