/-
  Texts joined by program: The operations that write: what the model does. append to a row that is there. All operations that write. All operations that write, together. All operations that write, together. All operations that write, together. Freezing: an object is struck, its row stays as it is from now on. Freezing values. Freezing temporaries; what is dropped at the end of a block. What is dropped at the end of a block.
-/
import Derived.Test.YtilbbbjfdcnciaaGreatJMc
import Derived.MapKept
/-! The operations that write: what the model does. -/
namespace Go.Va

variable {P : Program} {g g' : G}

theorem Objs.get_set : ∀ (os : Objs) (k : Nat) (o : Obj) (o0 : Obj), os.get k = some o0 → (os.set k o).get = upd os.get k o
  | [], _, _, _, h => by simp [Objs.get] at h
  | (k0, x) :: r, k, o, o0, h => by
    funext n
    simp only [Objs.set]
    by_cases hk : k0 = k
    · subst hk
      simp only [Nat.beq_refl, if_true, Objs.get, upd]
      by_cases hn : n = k0
      · subst hn; simp
      · have : Nat.beq k0 n = false := by rw [← Bool.not_eq_true, Nat.beq_eq]; omega
        simp [this, hn]
    · have hb : Nat.beq k0 k = false := by rw [← Bool.not_eq_true, Nat.beq_eq]; exact hk
      simp only [Objs.get, hb, Bool.false_eq_true, if_false] at h ⊢
      have ih := congrFun (Objs.get_set r k o o0 h) n
      rw [ih]
      simp only [upd]
      by_cases hn : n = k
      · subst hn; simp [hb]
      · simp [hn]

theorem Objs.get_cons (os : Objs) (k : Nat) (o : Obj) : Objs.get ((k, o) :: os) = upd os.get k o := by
  funext n
  simp only [Objs.get, upd]
  by_cases hn : n = k
  · subst hn; simp
  · have : Nat.beq k n = false := by rw [← Bool.not_eq_true, Nat.beq_eq]; omega
    simp [this, hn]

/-- A ROW IS WRITTEN IN ITS PLACE -/
theorem WOk.rewrite {m : Mem} {w : World} (hw : WOk g m w) {k ver ver' b : Nat} {var : Bool} {cs cs' : List AV} {C C' : Array Value} {el : TypeId} (hm : m k = some (.arr ver var cs))
    (hi : g.inj k ver = some (.at b C.size)) (hC : w.heap[b]? = some (.cells C el (0, 0))) (hsz : C'.size = C.size) (hv : ver ≤ ver')
    (hr : RL g cs' (C'.toList.take cs'.length)) (hs : scalars cs' = true) (hl : cs'.length ≤ C'.size) :
    WOk (g.place k ver' (.at b C.size)) (upd m k (.arr ver' var cs')) (w.setRow b C') ∧ Full g (g.place k ver' (.at b C.size)) ∧
    ∀ (c : Nat) (N : Nat → Prop), Tr c N g m w (g.place k ver' (.at b C.size)) (upd m k (.arr ver' var cs')) (w.setRow b C') := by
  have hf : Full g (g.place k ver' (.at b C.size)) := by
    rcases Nat.lt_or_ge ver ver' with h | h
    · exact Full.place _ (hw.vers k _ hm ver' h)
    · have : ver' = ver := by omega
      subst this
      refine ⟨fun _ _ _ h => h, fun _ _ h => h, fun k' v q hq => ?_⟩
      simp only [G.place]
      split
      · rename_i hkv; obtain ⟨rfl, rfl⟩ := hkv; rw [hi] at hq; exact hq
      · exact hq
  have key := fun c => hw.put (k := k) (b := b) (ob := .arr ver' var cs') (w' := w.setRow b C') hf rfl rfl (fun k' hk v => G.place_other _ hk v) (by simp) ⟨rfl, rfl, rfl, fun a => by
      unfold World.frozen?
      by_cases hab : a.block = b
      · rw [hab, setRow_heap w b C C' el (0, 0) hC, hC]
      · rw [setRow_other w b a.block C' hab]⟩
    (fun b' _ hb => setRow_other w b b' C' hb) (fun _ => ⟨_, _, hm, hi⟩)
    (.inr ⟨b, C.size, G.place_same _ _ _, C', el, setRow_heap w b C C' el (0, 0) hC, hsz, by omega, fun j x hx => by
      obtain ⟨v, hv, hrv⟩ := RL_get (hf.RL hr) j x hx
      rw [List.getElem?_take] at hv
      split at hv
      · exact ⟨v, by simpa using hv, hrv, scalars_get hs j x hx⟩
      · cases hv⟩)
    (by intro b' s h; simp only [Obj.ver] at h; rw [G.place_same] at h; simp only [Option.some.injEq, Pl.at.injEq] at h; exact h.1.symm)
    (fun v hlt => by
      simp only [Obj.ver] at hlt
      simp only [G.place]
      rw [if_neg (by omega)]
      exact hw.vers k _ hm v (by simp only [Obj.ver]; omega)) c
  refine ⟨(key 0).1, hf, fun c N => ?_⟩
  have t := (key c).2
  exact ⟨t.ext, fun k' hk' _ hno => t.unal k' hk' (by rintro rfl; rw [hm] at hno; cases hno) hno, t.size, t.keep, t.foot, t.os, t.output, t.tape, t.frz⟩

/-- A NEW ROW FOR AN OBJECT THAT IS THERE -/
theorem WOk.move {m : Mem} {w : World} (hw : WOk g m w) {k ver : Nat} {var : Bool} {cs cs' : List AV} {C' : Array Value} {el : TypeId} (hm : m k = some (.arr ver var cs))
    (hr : RL g cs' (C'.toList.take cs'.length)) (hs : scalars cs' = true) (hl : cs'.length ≤ C'.size) :
    WOk (g.place k (ver + 1) (.at w.heap.size C'.size)) (upd m k (.arr (ver + 1) var cs')) (w.alloc (.cells C' el)) ∧ Full g (g.place k (ver + 1) (.at w.heap.size C'.size)) ∧
    ∀ (c : Nat) (N : Nat → Prop), Tr c N g m w (g.place k (ver + 1) (.at w.heap.size C'.size)) (upd m k (.arr (ver + 1) var cs')) (w.alloc (.cells C' el)) := by
  have hf : Full g (g.place k (ver + 1) (.at w.heap.size C'.size)) := Full.place _ (hw.vers k _ hm (ver + 1) (by simp [Obj.ver]))
  have key := fun c => hw.put (k := k) (b := w.heap.size) (ob := .arr (ver + 1) var cs') (w' := w.alloc (.cells C' el)) hf rfl rfl (fun k' hk v => G.place_other _ hk v) (by simp) (Beside.alloc w _)
    (fun b' h _ => heap_alloc_lt w _ h) (fun h => absurd h (Nat.lt_irrefl _))
    (.inr ⟨w.heap.size, C'.size, G.place_same _ _ _, C', el, heap_alloc_new w _, rfl, hl, fun j x hx => by
      obtain ⟨v, hv, hrv⟩ := RL_get (hf.RL hr) j x hx
      rw [List.getElem?_take] at hv
      split at hv
      · exact ⟨v, by simpa using hv, hrv, scalars_get hs j x hx⟩
      · cases hv⟩)
    (by intro b' s h; simp only [Obj.ver] at h; rw [G.place_same] at h; simp only [Option.some.injEq, Pl.at.injEq] at h; exact h.1.symm)
    (fun v hlt => by
      simp only [Obj.ver] at hlt
      simp only [G.place]
      rw [if_neg (by omega)]
      exact hw.vers k _ hm v (by simp only [Obj.ver]; omega)) c
  refine ⟨(key 0).1, hf, fun c N => ?_⟩
  have t := (key c).2
  exact ⟨t.ext, fun k' hk' _ hno => t.unal k' hk' (by rintro rfl; rw [hm] at hno; cases hno) hno, t.size, t.keep, t.foot, t.os, t.output, t.tape, t.frz⟩

/-- A MAP IS WRITTEN -/
theorem WOk.remap {m : Mem} {w : World} (hw : WOk g m w) {k b s : Nat} {ks vs ks' vs' : List AV} {es es' : Array MapEntry} (hm : m k = some (.map ks vs))
    (hi : g.inj k 0 = some (.at b s)) (hb : w.heap[b]? = some (.map es es.size)) (he : Entries g es' ks' vs') :
    WOk g (upd m k (.map ks' vs')) { w with heap := w.heap.setIfInBounds b (.map es' es'.size) } ∧
    ∀ (c : Nat) (N : Nat → Prop), Tr c N g m w g (upd m k (.map ks' vs')) { w with heap := w.heap.setIfInBounds b (.map es' es'.size) } := by
  have hlt := (Array.getElem?_eq_some_iff.1 hb).1
  have key := fun c => hw.put (g' := g) (k := k) (b := b) (ob := .map ks' vs') (w' := { w with heap := w.heap.setIfInBounds b (.map es' es'.size) }) (Full.refl g) rfl rfl (fun _ _ _ => rfl) (by simp) ⟨rfl, rfl, rfl, fun a => by
      unfold World.frozen?
      by_cases hab : a.block = b
      · rw [hab, hb]; simp [hlt]
      · simp [Ne.symm hab]⟩
    (fun b' _ hne => by simp [Ne.symm hne]) (fun _ => ⟨_, _, hm, hi⟩)
    ⟨b, s, es', hi, by simp [hlt], he⟩
    (by intro b' s' h; simp only [Obj.ver] at h; rw [hi] at h; simp only [Option.some.injEq, Pl.at.injEq] at h; exact h.1.symm)
    (fun v hv => hw.vers k _ hm v hv) c
  refine ⟨(key 0).1, fun c N => ?_⟩
  have t := (key c).2
  exact ⟨t.ext, fun k' hk' _ hno => t.unal k' hk' (by rintro rfl; rw [hm] at hno; cases hno) hno, t.size, t.keep, t.foot, t.os, t.output, t.tape, t.frz⟩

/-! ## What an operation that writes leaves behind -/

def updO (m : Mem) : Option (Nat × Obj) → Mem
  | some (k, o) => upd m k o
  | none => m

/-- v: the answer; d: the object that is laid or changed -/
def Effs (P : Program) (g : G) (m : Mem) (w : World) (nk : Nat) (s : Sem Next) (v : AV) (d : Option (Nat × Obj)) : Prop :=
  ∃ nx cv w' g', s.run P w = .ok nx w' ∧ (nx = .value cv ∨ (nx = .skip ∧ cv = undef)) ∧ R g' v cv ∧ WOk g' (updO m d) w' ∧ Full g g' ∧ ∀ c, Tr c (· = nk) g m w g' (updO m d) w'

theorem Makes.effs {m : Mem} {w : World} {nk : Nat} {s : Sem Next} {v : AV} {ob : Option Obj} (h : Makes P g m w nk s v ob) : Effs P g m w nk s v (ob.map fun o => (nk, o)) := by
  obtain ⟨cv, w', g', h1, h2, h3, h4, h5⟩ := h
  refine ⟨_, cv, w', g', h1, .inl rfl, h2, ?_, h4, fun c => ?_⟩ <;> cases ob <;> simpa [updO, updo] using (by first | exact h3 | exact h5 c)

/-- the place of an object's row -/
theorem WOk.row {m : Mem} {w : World} (hw : WOk g m w) {k ver b s : Nat} {var : Bool} {cs : List AV} (hm : m k = some (.arr ver var cs)) (hi : g.inj k ver = some (.at b s)) : RowAt g w b s cs := by
  rcases hw.objs k _ hm with ⟨h, _⟩ | ⟨b', s', h, hr⟩
  · rw [hi] at h; cases h
  · rw [hi] at h
    simp only [Option.some.injEq, Pl.at.injEq] at h
    obtain ⟨rfl, rfl⟩ := h
    exact hr

theorem putAt_length {cs vs : List AV} {off : Nat} (h : off + vs.length ≤ cs.length) : (putAt cs off vs).length = cs.length := by
  simp [putAt]; omega

/-- cells in the middle of a row -/
def putC (C : Array Value) (off : Nat) (vs : List Value) : Array Value := (C.toList.take off ++ vs ++ C.toList.drop (off + vs.length)).toArray

theorem putC_size {C : Array Value} {off : Nat} {vs : List Value} (h : off + vs.length ≤ C.size) : (putC C off vs).size = C.size := by
  simp [putC]; omega

theorem getElem?_putC {C : Array Value} {off : Nat} {vs : List Value} (h : off + vs.length ≤ C.size) (j : Nat) :
    (putC C off vs)[j]? = if j < off then C[j]? else if j < off + vs.length then vs[j - off]? else C[j]? := by
  simp only [putC, List.getElem?_toArray, List.getElem?_append, List.length_take, List.length_append, List.getElem?_take, List.getElem?_drop]
  have e : min off C.toList.length = off := by simp; omega
  rw [e]
  by_cases h1 : j < off
  · simp [h1, show j < off + vs.length by omega]
  · by_cases h2 : j < off + vs.length
    · simp [h1, h2]
    · simp only [h1, h2, if_false]
      rw [show off + vs.length + (j - (off + vs.length)) = j by omega]
      simp

theorem getElem?_putAt {cs vs : List AV} {off : Nat} (h : off + vs.length ≤ cs.length) (j : Nat) :
    (putAt cs off vs)[j]? = if j < off then cs[j]? else if j < off + vs.length then vs[j - off]? else cs[j]? := by
  simp only [putAt, List.getElem?_append, List.length_take, List.length_append, List.getElem?_take, List.getElem?_drop]
  have e : min off cs.length = off := by omega
  rw [e]
  by_cases h1 : j < off
  · simp [h1, show j < off + vs.length by omega]
  · by_cases h2 : j < off + vs.length
    · simp [h1, h2]
    · simp only [h1, h2, if_false]
      rw [show off + vs.length + (j - (off + vs.length)) = j by omega]

theorem row_put {off : Nat} {cs as : List AV} {vs : List Value} {C : Array Value} (hl : cs.length ≤ C.size)
    (hcells : ∀ (j : Nat) (c : AV), cs[j]? = some c → ∃ v, C[j]? = some v ∧ R g c v ∧ c.scalar = true) (hr : RL g as vs) (hs : scalars as = true) (hle : off + as.length ≤ cs.length) :
    RL g (putAt cs off as) ((putC C off vs).toList.take (putAt cs off as).length) ∧ scalars (putAt cs off as) = true := by
  have hvl := RL_len hr
  have hle' : off + vs.length ≤ C.size := by omega
  have hlen := putAt_length hle
  have get : ∀ (j : Nat) (c : AV), (putAt cs off as)[j]? = some c → ∃ v, (putC C off vs)[j]? = some v ∧ R g c v ∧ c.scalar = true := by
    intro j c hc
    rw [getElem?_putAt hle] at hc
    rw [getElem?_putC hle', ← hvl]
    split at hc
    · rename_i h1
      simp only [h1, if_true]
      exact hcells j c hc
    · rename_i h1
      split at hc
      · rename_i h2
        simp only [h1, h2, if_true, if_false]
        obtain ⟨v, h3, h4⟩ := RL_get hr _ c hc
        exact ⟨v, h3, h4, scalars_get hs _ c hc⟩
      · rename_i h2
        simp only [h1, h2, if_false]
        exact hcells j c hc
  refine ⟨RL_mk ?_ fun j c v hc hv => ?_, ?_⟩
  · have := putC_size hle'
    simp only [List.length_take, Array.length_toList, this, hlen]
    omega
  · obtain ⟨u, h1, h2, _⟩ := get j c hc
    rw [List.getElem?_take] at hv
    split at hv
    · have : (putC C off vs)[j]? = some v := by simpa using hv
      rw [h1] at this
      simp only [Option.some.injEq] at this; subst this; exact h2
    · cases hv
  · have : ∀ l : List AV, (∀ (j : Nat) (c : AV), l[j]? = some c → c.scalar = true) → scalars l = true := by
      intro l
      induction l with
      | nil => intro _; rfl
      | cons a l ih =>
        intro h
        simp only [scalars, Bool.and_eq_true]
        exact ⟨h 0 a rfl, ih (fun j c hc => h (j + 1) c (by simpa using hc))⟩
    exact this _ (fun j c hc => (get j c hc).choose_spec.2.2)

/-- a store into an object -/
theorem store_ok {m : Mem} {w : World} (hw : WOk g m w) {nk k ver off n : Nat} {var : Bool} {cs : List AV} (hm : m k = some (.arr ver var cs)) {p v : Value} (hp : R g (.ptr k ver off) p)
    {av : AV} (hv : R g av v) (hlen : av.cells.length = n) (hs : scalars av.cells = true) (hle : off + n ≤ cs.length) {t : TypeId} (hz : szIs P t n = true) :
    ∃ w', (Instr.storeAt t p v).run P w = .ok () w' ∧ ∃ g', Full g g' ∧ WOk g' (upd m k (.arr ver var (putAt cs off av.cells))) w' ∧ ∀ c, Tr c (· = nk) g m w g' (upd m k (.arr ver var (putAt cs off av.cells))) w' := by
  simp only [R] at hp
  obtain ⟨b, s, hi, rfl⟩ := hp
  obtain ⟨C, el, hC, hsz, hl, hcells⟩ := hw.row hm hi
  subst hsz
  have hvr := R_cells hv hs
  have hvl := RL_len hvr
  have hrun := run_storeCells_at (P := P) b off el v.cells.toList 0 C w hC (by omega) (RL_ones hvr hs)
  simp only [Nat.add_zero] at hrun
  obtain ⟨h1, h2⟩ := row_put (g := g) hl hcells hvr hs (off := off) (by omega)
  have h3 := hw.rewrite (ver' := ver) hm hi hC (C' := putC C off v.cells.toList) (putC_size (by omega)) (Nat.le_refl _) h1 h2 (by rw [putAt_length (by omega), putC_size (by omega)]; exact hl)
  refine ⟨_, ?_, _, h3.2.1, h3.1, fun c => h3.2.2 c _⟩
  simp only [Instr.storeAt, Instr.sureAddr, Sem.run_bind, Sem.run_pure, Result.andThen_ok, storeVar, szIs_run hz w, Sem.run_ite]
  rw [if_neg (by simp at hvl; omega)]
  exact hrun

end Go.Va
/-! append to a row that is there. -/
namespace Go.Va

variable {P : Program} {g g' : G}

theorem growBy_le (n : Nat) : ∀ (r c : Nat), c ≤ 2 * n + 768 → Builtin.growBy n r c ≤ 2 * n + 768
  | 0, c, h => h
  | r + 1, c, h => by
    unfold Builtin.growBy
    split
    · exact h
    · exact growBy_le n r _ (by omega)

theorem nextslicecap_le {n c : Nat} (h : c < n) : Builtin.nextslicecap n c ≤ 2 * n + 768 := by
  unfold Builtin.nextslicecap
  split
  · omega
  · split
    · omega
    · exact growBy_le n 4 c (by omega)

/-- append that needs a new row -/
theorem run_appG {t u e : TypeId} {sh : Sh} {by_ n l c : Nat} (he : sliceElem P t = some e) (hue : (sliceElem P u).isSome = true) (hsh : shOk P e sh = true) (hby : byIs P e by_ = true) (hby0 : 0 < by_)
    (hz : agOp.zeroOkAny P e sh.size = true) {a : Option Addr} {y : Value} {ty : TypeId} {ts : Array TypeId} (h0 : ts[0]? = some t) (h1 : ts[1]? = some u) {w : World} {src : List AV} {vs old : List Value}
    (hsrc : Src P g w sh.size n y src vs) (hold : ∀ w' : World, w'.heap = w.heap → (Builtin.firstCells sh.size l (.slice a l c)).run P w' = .ok old.toArray w') (holdl : old.length = l * sh.size)
    (hlc : c < l + n) (hroom : roomOk (2 * (l + n) + 768) by_ = true) :
    ∃ (w0 : World) (cap : Nat) (rest : Array Value), w0.heap = w.heap ∧ Beside w w0 ∧ l + n ≤ cap ∧ ((old ++ vs).toArray ++ rest).size = cap * sh.size ∧
      (Builtin.append_ ts ty #[.slice a l c, y]).run P w = .ok (.slice (some ⟨w.heap.size, 0, none⟩) (l + n) cap) (w0.alloc (.cells ((old ++ vs).toArray ++ rest) e)) := by
  have hu := sliceElem_spec he
  obtain ⟨u', hu'⟩ := Option.isSome_iff_exists.1 hue
  have huu := sliceElem_spec hu'
  obtain ⟨hsz, hs0, _⟩ := shOk_spec hsh
  obtain ⟨i, hi, hib⟩ := byIs_run hby
  obtain ⟨z, hzr, hzs, _⟩ := zeroAny_spec hz
  obtain ⟨_, hr2⟩ := room_int hroom
  have hforced : (Question.appendCap (l + n) c e).forced = false := rfl
  let cap := (Question.appendCap (l + n) c e).cut (w.tape w.drawn (.appendCap (l + n) c e))
  have hcap : l + n ≤ cap := by
    show l + n ≤ l + n + _
    omega
  refine ⟨w.drew, cap, Builtin.zeroCells z.cells (cap - (l + n)), rfl, Beside.drew w, hcap, ?_, ?_⟩
  · have hl : vs.length = n * sh.size := by rw [← RL_len hsrc.rel, hsrc.len]
    simp only [Builtin.zeroCells, Array.size_append, List.size_toArray, List.length_append, Array.size_map, Array.size_range, hl, hzs, holdl]
    rw [← Nat.add_mul, ← Nat.add_mul]
    congr 1
    omega
  · have hnn : ¬ (l + n ≤ c) := by omega
    have hncap := nextslicecap_le hlc
    have hcond : ¬ (Builtin.nextslicecap (l + n) c * by_ > 2 ^ 48) := by
      have := Nat.mul_le_mul_right by_ hncap
      omega
    have hb0 : ¬ by_ = 0 := by omega
    have hti : ∀ w' : World, (typeInfo e).run P w' = .ok i w' := fun w' => run_typeInfo w' hi
    have hc1 := hold w.drew rfl
    have hc2 := hsrc.first w.drew rfl
    simp only [Builtin.append_, h0, h1, Sem.run_bind, run_underlying hu, run_underlying huu, Result.andThen_ok, szIs_run hsz w, Sem.run_pure, hsrc.lenOf, List.getElem?_toArray, List.getElem?_cons_zero, List.getElem?_cons_succ,
      Bool.false_eq_true, if_false, hnn, Sem.run_ite, hti, hib, hb0, or_false, and_false, hcond,
      run_choose, hforced, run_askRoom, World.drew_eq, hc1, hc2, Bool.not_false, if_true, hzr, newRow, run_newObj, World.alloc_eq]
    have e1 : old.toArray ++ vs.toArray = (old ++ vs).toArray := by simp
    rw [e1]
    rfl

/-- append in place -/
theorem run_appI {t u e : TypeId} {sh : Sh} {n l c : Nat} (he : sliceElem P t = some e) (hue : (sliceElem P u).isSome = true) (hsh : shOk P e sh = true)
    {b off : Nat} {y : Value} {ty : TypeId} {ts : Array TypeId} (h0 : ts[0]? = some t) (h1 : ts[1]? = some u) {w : World} {src : List AV} {vs : List Value}
    (hsrc : Src P g w sh.size n y src vs) (hs : scalars src = true) {C : Array Value} {el : TypeId} (hC : w.heap[b]? = some (.cells C el (0, 0))) (hlc : l + n ≤ c) (hle : off + c * sh.size ≤ C.size) :
    (Builtin.append_ ts ty #[.slice (some ⟨b, off, none⟩) l c, y]).run P w = .ok (.slice (some ⟨b, off, none⟩) (l + n) c) (w.setRow b (putC C (off + l * sh.size) vs)) := by
  have hu := sliceElem_spec he
  obtain ⟨u', hu'⟩ := Option.isSome_iff_exists.1 hue
  have huu := sliceElem_spec hu'
  obtain ⟨hsz, hs0, _⟩ := shOk_spec hsh
  have hvl := RL_len hsrc.rel
  have hc2 := hsrc.first w rfl
  have hm : (l + n) * sh.size ≤ c * sh.size := Nat.mul_le_mul_right _ hlc
  rw [Nat.add_mul] at hm
  have hrun := run_storeCells_at (P := P) b (off + l * sh.size) el vs 0 C w hC (by have := hsrc.len; omega) (RL_ones hsrc.rel hs)
  simp only [Nat.add_zero] at hrun
  simp only [Builtin.append_, h0, h1, Sem.run_bind, run_underlying hu, run_underlying huu, Result.andThen_ok, szIs_run hsz w, Sem.run_pure, hsrc.lenOf, List.getElem?_toArray, List.getElem?_cons_zero, List.getElem?_cons_succ,
    Bool.false_eq_true, if_false, hlc, if_true, Sem.run_ite, Bool.not_false, hc2, addr_add, hrun]
  rfl

def Does (P : Program) (g : G) (m : Mem) (w : World) (nk : Nat) (s : Sem Value) (v : AV) (k : Nat) (o : Obj) : Prop :=
  ∃ cv w' g', s.run P w = .ok cv w' ∧ R g' v cv ∧ WOk g' (upd m k o) w' ∧ Full g g' ∧ ∀ c, Tr c (· = nk) g m w g' (upd m k o) w'

theorem scalars_of_get : ∀ {l : List AV}, (∀ (j : Nat) (c : AV), l[j]? = some c → c.scalar = true) → scalars l = true
  | [], _ => rfl
  | a :: l, h => by
    simp only [scalars, Bool.and_eq_true]
    exact ⟨h 0 a rfl, scalars_of_get (fun j c hc => h (j + 1) c (by simpa using hc))⟩

/-- append to the object k -/
theorem app_ok {m : Mem} {w : World} (hw : WOk g m w) {os : Objs} (hos : ∀ k o, os.get k = some o → m k = some o) {nk k ver l n : Nat} {ag : Bool} {var : Bool} {cs src : List AV} (hk : os.get k = some (.arr ver var cs))
    {t u e : TypeId} {sh : Sh} {by_ : Nat} (he : sliceElem P t = some e) (hue : (sliceElem P u).isSome = true) (hsh : shOk P e sh = true) (hby : byIs P e by_ = true) (hby0 : 0 < by_)
    (hz : agOp.zeroOkAny P e sh.size = true) {x y : Value} {ya : AV} {ty : TypeId} {ts : Array TypeId} (h0 : ts[0]? = some t) (h1 : ts[1]? = some u) (hx : R g (.slR k ver 0 l sh.size ag) x) (hy : R g ya y)
    (hsrc : srcCells os sh k ya = some (n, src)) (hn : n ≠ 0) (hl : l * sh.size ≤ cs.length) (hs : scalars src = true) (hroom : roomOk (2 * (l + n) + 768) by_ = true) :
    Does P g m w nk (Builtin.append_ ts ty #[x, y]) (.slR k (ver + 1) 0 (l + n) sh.size ag) k (.arr (ver + 1) var (cs.take (l * sh.size) ++ src)) := by
  have hm := hos k _ hk
  obtain ⟨vs, hS, _⟩ := run_src (P := P) hw hos hsrc hy
  obtain ⟨_, hs0, _⟩ := shOk_spec hsh
  have hvl : vs.length = src.length := (RL_len hS.rel).symm
  have hsl := hS.len
  have htl : (cs.take (l * sh.size)).length = l * sh.size := by simp; omega
  -- when a new row is laid
  have fresh : ∀ {a : Option Addr} {c : Nat} {old : List Value}, x = .slice a l c → RL g (cs.take (l * sh.size)) old → scalars (cs.take (l * sh.size)) = true →
      (∀ w' : World, w'.heap = w.heap → (Builtin.firstCells sh.size l (.slice a l c)).run P w' = .ok old.toArray w') → c < l + n →
      Does P g m w nk (Builtin.append_ ts ty #[x, y]) (.slR k (ver + 1) 0 (l + n) sh.size ag) k (.arr (ver + 1) var (cs.take (l * sh.size) ++ src)) := by
    intro a c old hxa hold hso hfirst hlc
    have hol : old.length = l * sh.size := by rw [← RL_len hold]; exact htl
    obtain ⟨w0, cap, rest, hw0, hb0, hcap, hsize, hrun⟩ := run_appG he hue hsh hby hby0 hz (ty := ty) h0 h1 hS hfirst hol hlc hroom
    have hw0' := hw.sameHeap hw0
    have e0 : w0.heap.size = w.heap.size := by rw [hw0]
    have hrl : RL g (cs.take (l * sh.size) ++ src) (old ++ vs) := by
      refine RL_mk (by rw [List.length_append, List.length_append, RL_len hold, hvl]) fun j c v hc hv => ?_
      have e1 := RL_len hold
      rw [List.getElem?_append] at hc hv
      rw [← e1] at hv
      split at hc
      · rename_i hj
        simp only [hj, if_true] at hv
        obtain ⟨u, h3, h4⟩ := RL_get hold j c hc
        rw [h3] at hv; simp only [Option.some.injEq] at hv; subst hv; exact h4
      · rename_i hj
        simp only [hj, if_false] at hv
        obtain ⟨u, h3, h4⟩ := RL_get hS.rel _ c hc
        rw [h3] at hv; simp only [Option.some.injEq] at hv; subst hv; exact h4
    have hsc : scalars (cs.take (l * sh.size) ++ src) = true := by
      generalize cs.take (l * sh.size) = as at hso
      clear hrl htl hold
      induction as with
      | nil => exact hs
      | cons a as ih =>
        simp only [List.cons_append, scalars, Bool.and_eq_true] at hso ⊢
        exact ⟨hso.1, ih hso.2⟩
    have hlen : (cs.take (l * sh.size) ++ src).length = (old ++ vs).length := RL_len hrl
    have hmv := hw0'.move (k := k) (C' := (old ++ vs).toArray ++ rest) (el := e) hm (cs' := cs.take (l * sh.size) ++ src) (by
      have e9 : List.take (old ++ vs).length ((old ++ vs).toArray ++ rest).toList = old ++ vs := by
        rw [Array.toList_append]
        exact List.take_left
      rw [hlen, e9]
      exact hrl) hsc (by rw [hlen]; simp)
    refine ⟨_, _, _, by rw [hxa]; exact hrun, ?_, hmv.1, hmv.2.1, fun c => ((Tr.sameHeap (c := c) (N := fun _ => False) hw0 hb0).trans (hmv.2.2 c (fun _ => False)) (Nat.le_refl c)).weaken (Nat.le_refl c) (fun k _ hk => hk.elim (fun x => x.elim) (fun x => x.elim))⟩
    simp only [R]
    refine .inr ⟨w.heap.size, ((old ++ vs).toArray ++ rest).size, cap, ?_, rfl, hcap, by rw [hsize]; omega⟩
    rw [← e0]; exact G.place_same _ _ _
  simp only [R] at hx
  rcases hx with ⟨hi, _, rfl, rfl⟩ | ⟨b, size, c, hi, rfl, hlc, hle⟩
  · refine fresh (a := none) (c := 0) (old := []) rfl (by simp [RL]) (by simp [scalars]) (fun w' _ => by simp [Builtin.firstCells]) (by omega)
  · obtain ⟨C, el, hC, hsz, hcl, hcells⟩ := hw.row hm hi
    subst hsz
    have hlm : l * sh.size ≤ c * sh.size := Nat.mul_le_mul_right _ hlc
    have old_rel : RL g (cs.take (l * sh.size)) (C.toList.take (l * sh.size)) := by
      refine RL_mk (by simp; omega) fun j x v hx hv => ?_
      rw [List.getElem?_take] at hx hv
      split at hx
      · rename_i hj
        simp only [hj, if_true] at hv
        obtain ⟨u, h3, h4, _⟩ := hcells j x hx
        have : C[j]? = some v := by simpa using hv
        rw [h3] at this; simp only [Option.some.injEq] at this; subst this; exact h4
      · cases hx
    have old_sc : scalars (cs.take (l * sh.size)) = true := by
      refine scalars_of_get fun j x hx => ?_
      rw [List.getElem?_take] at hx
      split at hx
      · exact (hcells j x hx).choose_spec.2.2
      · cases hx
    by_cases hfit : l + n ≤ c
    · have hrun := run_appI he hue hsh (ty := ty) h0 h1 hS hs hC hfit (off := 0) (by simpa using hle)
      have hm2 : (l + n) * sh.size ≤ c * sh.size := Nat.mul_le_mul_right _ hfit
      rw [Nat.add_mul] at hm2
      simp only [Nat.zero_add] at hrun hle
      have hbase : ∀ (j : Nat) (x : AV), (cs.take (l * sh.size) ++ src)[j]? = some x → ∃ v, (putC C (l * sh.size) vs)[j]? = some v ∧ R g x v ∧ x.scalar = true := by
        intro j x hx
        rw [getElem?_putC (by omega)]
        rw [List.getElem?_append, htl] at hx
        split at hx
        · rename_i hj
          simp only [hj, if_true]
          rw [List.getElem?_take] at hx
          simp only [hj, if_true] at hx
          exact hcells j x hx
        · rename_i hj
          simp only [hj, if_false]
          obtain ⟨v, h3, h4⟩ := RL_get hS.rel _ x hx
          have := (List.getElem?_eq_some_iff.1 h3).1
          simp only [show j < l * sh.size + vs.length by omega, if_true]
          exact ⟨v, h3, h4, scalars_get hs _ x hx⟩
      have hsz2 : (putC C (l * sh.size) vs).size = C.size := putC_size (by omega)
      have hre := hw.rewrite (ver' := ver + 1) hm hi hC hsz2 (by omega) (cs' := cs.take (l * sh.size) ++ src)
        (RL_mk (by simp [hsz2]; omega) fun j x v hx hv => by
          obtain ⟨u, h3, h4, _⟩ := hbase j x hx
          rw [List.getElem?_take] at hv
          split at hv
          · have : (putC C (l * sh.size) vs)[j]? = some v := by simpa using hv
            rw [h3] at this; simp only [Option.some.injEq] at this; subst this; exact h4
          · cases hv)
        (scalars_of_get fun j x hx => (hbase j x hx).choose_spec.2.2)
        (by simp [hsz2]; omega)
      refine ⟨_, _, _, hrun, ?_, hre.1, hre.2.1, fun c => hre.2.2 c _⟩
      simp only [R]
      exact .inr ⟨b, C.size, c, G.place_same _ _ _, rfl, hfit, by omega⟩
    · refine fresh (a := some ⟨b, 0, none⟩) (c := c) rfl old_rel old_sc (fun w' hw' => ?_) (by omega)
      have hlc2 := run_loadCells_list (P := P) w' ⟨b, 0, none⟩ (C.toList.take (l * sh.size)) (fun j v hj => by
        rw [List.getElem?_take] at hj
        split at hj
        · rw [addr_add]
          have hj' : C[j]? = some v := by simpa using hj
          simp [World.cell?, hw', hC, hj']
        · cases hj)
      have hlen : (C.toList.take (l * sh.size)).length = l * sh.size := by simp; omega
      rw [hlen] at hlc2
      simpa [Builtin.firstCells] using hlc2

end Go.Va
/-! All operations that write. -/
namespace Go.Va

variable {P : Program} {g g' : G}

theorem sameBits_ints : ∀ {xs ys : List AV} {vs us : List Value}, eqCells xs ys = some true → RL g xs vs → RL g ys us → (vs.zip us).all (fun (x, y) => Instr.sameBits 9999 x y) = true
  | [], [], vs, us, _, h1, h2 => by simp only [RL] at h1 h2; subst h1 h2; rfl
  | [], _ :: _, _, _, h, _, _ => by simp [eqCells] at h
  | x :: _, [], _, _, h, _, _ => by cases x <;> simp [eqCells] at h
  | x :: xs, y :: ys, vs, us, h, h1, h2 => by
    cases x <;> cases y <;> simp only [eqCells, reduceCtorEq] at h
    rename_i k a k' b
    split at h
    · rename_i hk
      split at h
      · rename_i r hr
        simp only [Option.some.injEq, Bool.and_eq_true, beq_iff_eq] at h
        obtain ⟨rfl, rfl⟩ := h
        subst hk
        simp only [RL] at h1 h2
        obtain ⟨v, r1, rfl, p1, q1⟩ := h1
        obtain ⟨u, r2, rfl, p2, q2⟩ := h2
        simp only [R] at p1 p2
        subst p1 p2
        simp only [List.zip_cons_cons, List.all_cons, Bool.and_eq_true]
        exact ⟨by simp [Instr.sameBits], sameBits_ints hr q1 q2⟩
      · cases h
    · cases h

theorem eqCells_swap : ∀ {xs ys : List AV}, eqCells xs ys = some true → eqCells ys xs = some true
  | [], [], _ => rfl
  | [], _ :: _, h => by simp [eqCells] at h
  | x :: _, [], h => by cases x <;> simp [eqCells] at h
  | x :: xs, y :: ys, h => by
    cases x <;> cases y <;> simp only [eqCells, reduceCtorEq] at h ⊢
    rename_i k a k' b
    split at h
    · rename_i hk
      subst hk
      split at h
      · rename_i r hr
        simp only [Option.some.injEq, Bool.and_eq_true, beq_iff_eq] at h
        obtain ⟨rfl, rfl⟩ := h
        rw [eqCells_swap hr]; simp
      · cases h
    · cases h

/-- a key that is there stays as it is written -/
theorem run_keyThatStays_ok {xs ys : List AV} {vs us : List Value} (h : eqCells xs ys = some true) (h1 : RL g xs vs) (h2 : RL g ys us) (w : World) :
    (Instr.keyThatStays (.agg us.toArray) (.agg vs.toArray)).run P w = .ok (.agg vs.toArray) w := by
  have hl := eqCells_len h
  have e1 := RL_len h1
  have e2 := RL_len h2
  have := sameBits_ints (eqCells_swap h) h2 h1
  have hsb : Instr.sameBits 10000 (.agg us.toArray) (.agg vs.toArray) = true := by
    show (us.toArray.size == vs.toArray.size && (us.toArray.toList.zip vs.toArray.toList).all fun (x, y) => Instr.sameBits 9999 x y) = true
    simp only [List.size_toArray, Bool.and_eq_true, beq_iff_eq]
    exact ⟨by omega, this⟩
  simp [Instr.keyThatStays, hsb]

theorem Entries.push {es : Array MapEntry} {ks vs : List AV} (h : Entries g es ks vs) {k v : AV} {kv vv : Value} {n : Nat} {kc : List AV} (hk : R g k kv) (hkc : keyOf n k = some kc) (hv : R g v vv) (hs : scalars v.cells = true) :
    Entries g (es.push { key := kv, val := vv, born := es.size }) (ks ++ [k]) (vs ++ [v]) := by
  refine ⟨by simp [h.1], by simp [h.2.1], fun i e he => ?_⟩
  rw [Array.getElem?_push] at he
  split at he
  · rename_i hi
    simp only [Option.some.injEq] at he; subst he; subst hi
    refine ⟨rfl, ⟨k, n, kc, by rw [← h.1]; simp, hk, hkc⟩, v, by rw [← h.2.1]; simp, hv, hs⟩
  · rename_i hi
    obtain ⟨h1, ⟨k', kn, kc', h2, h3⟩, v', h4, h5⟩ := h.2.2 i e he
    have hlt := (Array.getElem?_eq_some_iff.1 he).1
    refine ⟨h1, ⟨k', kn, kc', ?_, h3⟩, v', ?_, h5⟩
    · rw [List.getElem?_append_left (by rw [h.1]; exact hlt)]; exact h2
    · rw [List.getElem?_append_left (by rw [h.2.1]; exact hlt)]; exact h4

/-- an entry's value (and its key, by an equal one) written anew -/
theorem Entries.modify {es : Array MapEntry} {ks vs : List AV} (h : Entries g es ks vs) {j : Nat} {f : MapEntry → MapEntry} {v : AV} (hf : ∀ e, es[j]? = some e → (f e).born = e.born ∧ (∃ k kn kc, ks[j]? = some k ∧ R g k (f e).key ∧ keyOf kn k = some kc) ∧ R g v (f e).val)
    (hs : scalars v.cells = true) : Entries g (es.modify j f) ks (vs.set j v) := by
  refine ⟨by simp [h.1], by simp [h.2.1], fun i e he => ?_⟩
  rw [Array.getElem?_modify] at he
  split at he
  · rename_i hi
    subst hi
    cases h0 : es[j]? with
    | none => rw [h0] at he; cases he
    | some e0 =>
      rw [h0] at he
      simp only [Option.map_some, Option.some.injEq] at he; subst he
      obtain ⟨h1, _⟩ := h.2.2 j e0 h0
      obtain ⟨q1, q2, q3⟩ := hf e0 h0
      have hlt := (Array.getElem?_eq_some_iff.1 h0).1
      refine ⟨q1.trans h1, q2, v, ?_, q3, hs⟩
      rw [List.getElem?_set_self (by rw [h.2.1]; exact hlt)]
  · rename_i hi
    obtain ⟨h1, h2, v', h4, h5⟩ := h.2.2 i e he
    refine ⟨h1, h2, v', ?_, h5⟩
    rw [List.getElem?_set_ne hi]; exact h4

theorem eqCells_self_of {xs ys : List AV} (h : eqCells xs ys = some true) {vs : List Value} (h1 : RL g xs vs) : RL g ys vs := by
  induction xs generalizing ys vs with
  | nil =>
    cases ys with
    | nil => exact h1
    | cons y ys => simp [eqCells] at h
  | cons x xs ih =>
    cases ys with
    | nil => cases x <;> simp [eqCells] at h
    | cons y ys =>
      cases x <;> cases y <;> simp only [eqCells, reduceCtorEq] at h
      rename_i k a k' b
      split at h
      · rename_i hk
        subst hk
        split at h
        · rename_i r hr
          simp only [Option.some.injEq, Bool.and_eq_true, beq_iff_eq] at h
          obtain ⟨rfl, rfl⟩ := h
          simp only [RL] at h1 ⊢
          obtain ⟨v, r1, rfl, p1, q1⟩ := h1
          exact ⟨v, r1, rfl, p1, ih hr q1⟩
        · cases h
      · cases h

theorem Effs.skip {m : Mem} {w w' : World} {nk : Nat} {s : Sem Next} {d : Option (Nat × Obj)} (h : s.run P w = .ok .skip w') (h2 : WOk g' (updO m d) w') (h3 : Full g g') (h4 : ∀ c, Tr c (· = nk) g m w g' (updO m d) w') :
    Effs P g m w nk s .bot d := ⟨.skip, undef, w', g', h, .inr ⟨rfl, rfl⟩, trivial, h2, h3, h4⟩

theorem storeV_spec {h h' : H} {n : Nat} {p v : AV} (hv : storeV h n p v = some h') : ∃ k ver off var cs, p = .ptr k ver off ∧ h.ro ≤ k ∧ h.objs.get k = some (.arr ver var cs) ∧ v.cells.length = n ∧ scalars v.cells = true ∧
    off + n ≤ cs.length ∧ h' = { h with objs := h.objs.set k (.arr ver var (putAt cs off v.cells)) } := by
  unfold storeV at hv
  split at hv
  · rename_i k ver off
    split at hv
    · cases hv
    · rename_i hro
      split at hv
      · rename_i ver' var cs hget
        split at hv
        · rename_i hc
          simp only [Bool.and_eq_true, Nat.beq_eq, Nat.ble_eq] at hc
          obtain ⟨⟨⟨rfl, h1⟩, h2⟩, h3⟩ := hc
          simp only [Option.some.injEq] at hv
          exact ⟨k, ver, off, var, cs, rfl, by simpa [Nat.blt_eq] using hro, hget, h1, h2, h3, hv.symm⟩
        · cases hv
      · cases hv
  · cases hv

theorem storeOp_ok {o : Oper} {t : T} {a : Act} {w : World} {h h' : H} {m : Mem} {nk n : Nat} {p v : Opd} (hag : agOp P o.op (.store n p v) = true) (ht : TOn g t a.tmps (p.use ++ v.use)) (hw : WOk g m w)
    (hos : ∀ k o, h.objs.get k = some o → m k = some o) (hv : storeV h n (p.ev t) (v.ev t) = some h') :
    ∃ d, Effs P g m w nk (execOp a.eval o) .bot d ∧ h'.objs.get = updO h.objs.get d ∧ h'.cnt = h.cnt ∧ h'.ro = h.ro ∧ ∀ k ob, d = some (k, ob) → h.ro ≤ k ∧ (h.objs.get k).isSome = true ∧ ∃ ver off, p.ev t = .ptr k ver off := by
  obtain ⟨dst, op, ty, pos, after, guard⟩ := o
  simp only [agOp] at hag
  split at hag
  · rename_i t0 p' v'
    simp only [Bool.and_eq_true] at hag
    obtain ⟨⟨hz, hp⟩, hv'⟩ := hag
    obtain ⟨k, ver, off, var, cs, h1, h2, h3, h4, h5, h6, rfl⟩ := storeV_spec hv
    have hpr := agOpd_R hp (ht.sub (fun n hn => by simp only [List.mem_append]; exact .inl hn))
    have hvr := agOpd_R hv' (ht.sub (fun n hn => by simp only [List.mem_append]; exact .inr hn))
    rw [h1] at hpr
    obtain ⟨w', q1, g', q2, q3, q4⟩ := store_ok (P := P) hw (nk := nk) (hos k _ h3) hpr hvr h4 h5 h6 hz
    refine ⟨some (k, .arr ver var (putAt cs off (v.ev t).cells)), Effs.skip (w' := w') (g' := g') ?_ q3 q2 q4, Objs.get_set _ _ _ _ h3, rfl, rfl, fun k' ob he => ?_⟩
    · simp [execOp, q1]
    · simp only [Option.some.injEq, Prod.mk.injEq] at he
      obtain ⟨rfl, _⟩ := he
      exact ⟨h2, by rw [h3]; rfl, ver, off, h1⟩
  · cases hag

end Go.Va
/-! All operations that write, together. -/
namespace Go.Va

variable {P : Program} {g g' : G}

/-- a map's entry for a key: what the model does with it -/
theorem found_entry {es : Array MapEntry} {ks vs : List AV} (he : Entries g es ks vs) {j : Nat} {e : MapEntry} (h : es[j]? = some e) {x kc : List AV} (hx : ks[j]? = some (.agg x)) (hq : eqCells kc x = some true)
    {kv : List Value} (hk : RL g kc kv) (w : World) :
    (Instr.keyThatStays e.key (.agg kv.toArray)).run P w = .ok (.agg kv.toArray) w ∧ ∃ k kn kc', ks[j]? = some k ∧ R g k (.agg kv.toArray) ∧ keyOf kn k = some kc' := by
  obtain ⟨_, ⟨k, kn, kc', h1, h2, h3⟩, _⟩ := he.2.2 j e h
  rw [hx] at h1
  simp only [Option.some.injEq] at h1; subst h1
  have h2' := h2
  simp only [R] at h2'
  obtain ⟨us, hus, hul⟩ := h2'
  rw [hus]
  refine ⟨run_keyThatStays_ok hq hk hul w, _, kn, kc', hx, ?_, h3⟩
  simp only [R]
  exact ⟨kv, rfl, eqCells_self_of hq hk⟩

theorem mupd_ok {o : Oper} {t : T} {a : Act} {w : World} {h h' : H} {m : Mem} {nk kn : Nat} {mm k v : Opd} (hag : agOp P o.op (.mupd kn mm k v) = true) (ht : TOn g t a.tmps (mm.use ++ k.use ++ v.use)) (hw : WOk g m w)
    (hos : ∀ k o, h.objs.get k = some o → m k = some o) (hs : scalars (v.ev t).cells = true) (hv : mupdV h kn (mm.ev t) (k.ev t) (v.ev t) = some h') :
    ∃ d, Effs P g m w nk (execOp a.eval o) .bot d ∧ h'.objs.get = updO h.objs.get d ∧ h'.cnt = h.cnt ∧ h'.ro = h.ro ∧ ∀ k ob, d = some (k, ob) → h.ro ≤ k ∧ (h.objs.get k).isSome = true := by
  obtain ⟨dst, op, ty, pos, after, guard⟩ := o
  simp only [agOp] at hag
  split at hag
  · rename_i t0 m' k' v'
    simp only [Bool.and_eq_true] at hag
    obtain ⟨⟨⟨hmo, hm⟩, hk⟩, hvv⟩ := hag
    have hmr := agOpd_R hm (ht.sub (fun n hn => by simp only [List.mem_append]; exact .inl (.inl hn)))
    have hkr := agOpd_R hk (ht.sub (fun n hn => by simp only [List.mem_append]; exact .inl (.inr hn)))
    have hvr := agOpd_R hvv (ht.sub (fun n hn => by simp only [List.mem_append]; exact .inr hn))
    obtain ⟨⟨kt, e⟩, hme⟩ := Option.isSome_iff_exists.1 hmo
    obtain ⟨hu, hf, hno⟩ := isMapOk_spec hme
    unfold mupdV at hv
    split at hv
    · rename_i kc r hkc hma
      obtain ⟨hka, hkl, hki⟩ := keyOf_spec hkc
      rw [hma] at hmr
      rw [hka] at hkr
      simp only [R] at hmr hkr
      obtain ⟨b, s, hi, hmv⟩ := hmr
      obtain ⟨kv, hkv, hkvr⟩ := hkr
      split at hv
      · cases hv
      · rename_i hro
        have hro' : h.ro ≤ r := by simpa [Nat.blt_eq] using hro
        split at hv
        · rename_i ks vs hget
          obtain ⟨b', s', es, h1, h2, h3⟩ := hw.objs r _ (hos r _ hget)
          rw [hi] at h1
          simp only [Option.some.injEq, Pl.at.injEq] at h1
          obtain ⟨rfl, rfl⟩ := h1
          have hck := run_checkKey_ok hf hno hkvr hkl hki false w
          split at hv
          · rename_i i hfi
            obtain ⟨en, q1, q2, x, q3, q4⟩ := run_findKey_ok hf hno hkvr hkl w h3 hfi
            obtain ⟨p1, p2⟩ := found_entry (P := P) h3 q1 q3 q4 hkvr w
            simp only [Option.some.injEq] at hv; subst hv
            have he' := h3.modify (j := i) (f := fun e => { e with key := .agg kv.toArray, val := a.eval v' }) (v := v.ev t) (fun e0 he0 => ⟨rfl, p2, hvr⟩) hs
            have hre := hw.remap (hos r _ hget) hi h2 he'
            refine ⟨some (r, .map ks (vs.set i (v.ev t))), Effs.skip ?_ hre.1 (Full.refl g) (fun c => hre.2 c _), Objs.get_set _ _ _ _ hget, rfl, rfl, fun k' ob hh => ?_⟩
            · simp [execOp, Instr.mapUpdate, hmv, hkv, run_underlying hu, run_getObj h2, hck, q2, q1, p1, MapKept.run_setObj_map _ h2, Array.size_modify]
            · simp only [Option.some.injEq, Prod.mk.injEq] at hh
              obtain ⟨rfl, _⟩ := hh
              exact ⟨hro', by rw [hget]; rfl⟩
          · rename_i hfi
            have q2 := run_findKey_ok hf hno hkvr hkl w h3 hfi
            simp only at q2
            simp only [Option.some.injEq] at hv; subst hv
            have he' := h3.push (k := k.ev t) (v := v.ev t) (kv := .agg kv.toArray) (vv := a.eval v') (n := kn) (kc := kc) (by rw [hka]; simp only [R]; exact ⟨kv, rfl, hkvr⟩) hkc hvr hs
            have hre := hw.remap (hos r _ hget) hi h2 he'
            refine ⟨some (r, .map (ks ++ [k.ev t]) (vs ++ [v.ev t])), Effs.skip ?_ hre.1 (Full.refl g) (fun c => hre.2 c _), Objs.get_set _ _ _ _ hget, rfl, rfl, fun k' ob hh => ?_⟩
            · simp [execOp, Instr.mapUpdate, hmv, hkv, run_underlying hu, run_getObj h2, hck, q2, MapKept.run_setObj_map _ h2, Array.size_push]
            · simp only [Option.some.injEq, Prod.mk.injEq] at hh
              obtain ⟨rfl, _⟩ := hh
              exact ⟨hro', by rw [hget]; rfl⟩
          · cases hv
        · cases hv
    · cases hv
  · cases hag

theorem ment_ok {o : Oper} {t : T} {a : Act} {w : World} {h h' : H} {m : Mem} {nk kn : Nat} {zero r0 : AV} {mm k : Opd} (hag : agOp P o.op (.ment zero kn mm k) = true) (ht : TOn g t a.tmps (mm.use ++ k.use)) (hw : WOk g m w)
    (hos : ∀ k o, h.objs.get k = some o → m k = some o) (hv : mentV h zero kn (mm.ev t) (k.ev t) = some (r0, h')) :
    ∃ d, Effs P g m w nk (execOp a.eval o) r0 d ∧ h'.objs.get = updO h.objs.get d ∧ h'.cnt = h.cnt ∧ h'.ro = h.ro ∧ ∀ k ob, d = some (k, ob) → h.ro ≤ k ∧ (h.objs.get k).isSome = true := by
  obtain ⟨dst, op, ty, pos, after, guard⟩ := o
  simp only [agOp] at hag
  split at hag
  · rename_i t0 m' k'
    simp only [Bool.and_eq_true] at hag
    obtain ⟨⟨hmo, hm⟩, hk⟩ := hag
    have hmr := agOpd_R hm (ht.sub (fun n hn => by simp only [List.mem_append]; exact .inl hn))
    have hkr := agOpd_R hk (ht.sub (fun n hn => by simp only [List.mem_append]; exact .inr hn))
    split at hmo
    · rename_i kt e hme
      obtain ⟨z, hz1, hz2, hz3⟩ := zeroOk1_spec (g := g) hmo
      obtain ⟨hu, hf, hno⟩ := isMapOk_spec hme
      unfold mentV at hv
      split at hv
      · rename_i kc r hkc hma
        obtain ⟨hka, hkl, hki⟩ := keyOf_spec hkc
        rw [hma] at hmr
        rw [hka] at hkr
        simp only [R] at hmr hkr
        obtain ⟨b, s, hi, hmv⟩ := hmr
        obtain ⟨kv, hkv, hkvr⟩ := hkr
        split at hv
        · cases hv
        · rename_i hro
          have hro' : h.ro ≤ r := by simpa [Nat.blt_eq] using hro
          split at hv
          · rename_i ks vs hget
            obtain ⟨b', s', es, h1, h2, h3⟩ := hw.objs r _ (hos r _ hget)
            rw [hi] at h1
            simp only [Option.some.injEq, Pl.at.injEq] at h1
            obtain ⟨rfl, rfl⟩ := h1
            have hck := run_checkKey_ok hf hno hkvr hkl hki false w
            split at hv
            · rename_i i hfi
              obtain ⟨en, q1, q2, x, q3, q4⟩ := run_findKey_ok hf hno hkvr hkl w h3 hfi
              obtain ⟨p1, p2⟩ := found_entry (P := P) h3 q1 q3 q4 hkvr w
              split at hv
              · rename_i v0 hv0
                simp only [Option.some.injEq, Prod.mk.injEq] at hv
                obtain ⟨rfl, rfl⟩ := hv
                obtain ⟨hb, _, v1, y1, y2, y3⟩ := h3.2.2 i en q1
                rw [hv0] at y1; simp only [Option.some.injEq] at y1; subst y1
                have he' := h3.modify (j := i) (f := fun e => { e with key := .agg kv.toArray }) (v := v0) (fun e0 he0 => ⟨rfl, p2, by rw [q1] at he0; simp only [Option.some.injEq] at he0; subst he0; exact y2⟩) y3
                have e2 : vs.set i v0 = vs := by
                  apply List.ext_getElem?
                  intro n
                  by_cases hn : i = n
                  · subst hn
                    rw [List.getElem?_set_self (List.getElem?_eq_some_iff.1 hv0).1, hv0]
                  · rw [List.getElem?_set_ne hn]
                rw [e2] at he'
                have hre := hw.remap (hos r _ hget) hi h2 he'
                refine ⟨some (r, .map ks vs), ⟨_, .tuple #[en.val, goInt en.born], _, g, ?_, .inl rfl, ?_, hre.1, Full.refl g, fun c => hre.2 c _⟩, ?_, rfl, rfl, fun k' ob hh => ?_⟩
                · simp [execOp, Instr.mapEntry, hmv, hkv, run_underlying hu, run_getObj h2, hck, q2, q1, p1, MapKept.run_setObj_map _ h2, Array.size_modify]
                · simp only [R, RL]
                  exact ⟨[en.val, goInt en.born], rfl, _, _, rfl, y2, _, _, rfl, by simp [goInt, hb], rfl⟩
                · funext n
                  simp only [updO, upd]
                  split
                  · rename_i hn; rw [hn, hget]
                  · rfl
                · simp only [Option.some.injEq, Prod.mk.injEq] at hh
                  obtain ⟨rfl, _⟩ := hh
                  exact ⟨hro', by rw [hget]; rfl⟩
              · cases hv
            · rename_i hfi
              have q2 := run_findKey_ok hf hno hkvr hkl w h3 hfi
              simp only at q2
              simp only [Option.some.injEq, Prod.mk.injEq] at hv
              obtain ⟨rfl, rfl⟩ := hv
              have he' := h3.push (k := k.ev t) (v := zero) (kv := .agg kv.toArray) (vv := z) (n := kn) (kc := kc) (by rw [hka]; simp only [R]; exact ⟨kv, rfl, hkvr⟩) hkc hz2 hz3
              have hre := hw.remap (hos r _ hget) hi h2 he'
              refine ⟨some (r, .map (ks ++ [k.ev t]) (vs ++ [zero])), ⟨_, .tuple #[z, goInt es.size], _, g, ?_, .inl rfl, ?_, hre.1, Full.refl g, fun c => hre.2 c _⟩, Objs.get_set _ _ _ _ hget, rfl, rfl, fun k' ob hh => ?_⟩
              · simp [execOp, Instr.mapEntry, hmv, hkv, run_underlying hu, run_getObj h2, hck, q2, hz1, MapKept.run_setObj_map _ h2, Array.size_push]
              · simp only [R, RL]
                exact ⟨[z, goInt es.size], rfl, _, _, rfl, hz2, _, _, rfl, by simp [goInt, h3.1], rfl⟩
              · simp only [Option.some.injEq, Prod.mk.injEq] at hh
                obtain ⟨rfl, _⟩ := hh
                exact ⟨hro', by rw [hget]; rfl⟩
            · cases hv
          · cases hv
      · cases hv
    · cases hmo
  · cases hag

end Go.Va
/-! All operations that write, together. -/
namespace Go.Va

variable {P : Program} {g g' : G}

theorem findIdx_born {es : Array MapEntry} (hb : ∀ (i : Nat) (e : MapEntry), es[i]? = some e → e.born = i) {i : Nat} (hi : i < es.size) : es.findIdx? (fun e => (e.born : Int) == (i : Int)) = some i := by
  rw [Array.findIdx?_eq_some_iff_getElem]
  refine ⟨hi, ?_, fun j hj => ?_⟩
  · have := hb i es[i] (by simp [hi])
    simp [this]
  · have := hb j (es[j]'(by omega)) (by rw [Array.getElem?_eq_getElem])
    simp only [this, beq_iff_eq]
    omega

theorem estore_ok {o : Oper} {t : T} {a : Act} {w : World} {h h' : H} {m : Mem} {nk : Nat} {r0 : AV} {mm s v : Opd} (hag : agOp P o.op (.estore mm s v) = true) (ht : TOn g t a.tmps (mm.use ++ s.use ++ v.use)) (hw : WOk g m w)
    (hos : ∀ k o, h.objs.get k = some o → m k = some o) (hv : effV t nk h (.estore mm s v) = some (r0, h')) :
    ∃ d, Effs P g m w nk (execOp a.eval o) r0 d ∧ h'.objs.get = updO h.objs.get d ∧ h'.cnt = h.cnt ∧ h'.ro = h.ro ∧ ∀ k ob, d = some (k, ob) → h.ro ≤ k ∧ (h.objs.get k).isSome = true := by
  obtain ⟨dst, op, ty, pos, after, guard⟩ := o
  simp only [agOp] at hag
  split at hag
  · rename_i t0 m' s' v'
    simp only [Bool.and_eq_true] at hag
    obtain ⟨⟨hm, hs⟩, hvv⟩ := hag
    have hmr := agOpd_R hm (ht.sub (fun n hn => by simp only [List.mem_append]; exact .inl (.inl hn)))
    have hsr := agOpd_R hs (ht.sub (fun n hn => by simp only [List.mem_append]; exact .inl (.inr hn)))
    have hvr := agOpd_R hvv (ht.sub (fun n hn => by simp only [List.mem_append]; exact .inr hn))
    simp only [effV] at hv
    split at hv
    · rename_i r i hma hsi
      rw [hma] at hmr
      simp only [R] at hmr
      obtain ⟨b, sz, hi, hmv⟩ := hmr
      obtain ⟨k, hk⟩ := R_nat hsi hsr
      split at hv
      · cases hv
      · rename_i hro
        have hro' : h.ro ≤ r := by simpa [Nat.blt_eq] using hro
        split at hv
        · rename_i ks vs hget
          split at hv
          · rename_i hc
            simp only [Bool.and_eq_true, Nat.blt_eq] at hc
            obtain ⟨hlt, hsc⟩ := hc
            simp only [Option.some.injEq, Prod.mk.injEq] at hv
            obtain ⟨rfl, rfl⟩ := hv
            obtain ⟨b', s', es, h1, h2, h3⟩ := hw.objs r _ (hos r _ hget)
            rw [hi] at h1
            simp only [Option.some.injEq, Pl.at.injEq] at h1
            obtain ⟨rfl, rfl⟩ := h1
            have hfi := findIdx_born (fun i e he => (h3.2.2 i e he).1) (i := i) (by rw [← h3.1]; exact hlt)
            have he' := h3.modify (j := i) (f := fun e => { e with val := a.eval v' }) (v := v.ev t) (fun e0 he0 => ⟨rfl, (h3.2.2 i e0 he0).2.1, hvr⟩) hsc
            have hre := hw.remap (hos r _ hget) hi h2 he'
            refine ⟨some (r, .map ks (vs.set i (v.ev t))), Effs.skip ?_ hre.1 (Full.refl g) (fun c => hre.2 c _), Objs.get_set _ _ _ _ hget, rfl, rfl, fun k' ob hh => ?_⟩
            · simp [execOp, Instr.entryStore, hmv, run_getObj h2, hk, asInt, asIntOf, hfi, MapKept.run_setObj_map _ h2, Array.size_modify]
            · simp only [Option.some.injEq, Prod.mk.injEq] at hh
              obtain ⟨rfl, _⟩ := hh
              exact ⟨hro', by rw [hget]; rfl⟩
          · cases hv
        · cases hv
    · cases hv
  · cases hag

theorem Effs.same {m : Mem} {w : World} {nk : Nat} {s : Sem Next} {v : AV} {cv : Value} (hw : WOk g m w) (h : s.run P w = .ok (.value cv) w) (hr : R g v cv) : Effs P g m w nk s v none :=
  ⟨_, cv, w, g, h, .inl rfl, hr, hw, Full.refl g, fun c => Tr.refl c _ g m w⟩

theorem clear_ok {o : Oper} {t : T} {a : Act} {w : World} {h h' : H} {m : Mem} {nk : Nat} {r0 : AV} {zero : List AV} {x : Opd} (hag : agOp P o.op (.clear zero x) = true) (ht : TOn g t a.tmps x.use) (hw : WOk g m w)
    (hos : ∀ k o, h.objs.get k = some o → m k = some o) (hv : effV t nk h (.clear zero x) = some (r0, h')) :
    ∃ d, Effs P g m w nk (execOp a.eval o) r0 d ∧ h'.objs.get = updO h.objs.get d ∧ h'.cnt = h.cnt ∧ h'.ro = h.ro ∧ ∀ k ob, d = some (k, ob) → h.ro ≤ k ∧ (h.objs.get k).isSome = true := by
  obtain ⟨dst, op, ty, pos, after, guard⟩ := o
  simp only [agOp] at hag
  split at hag
  · rename_i as ts
    split at hag
    · rename_i x' t0 has h0
      simp only [Bool.and_eq_true] at hag
      obtain ⟨he, hx⟩ := hag
      split at he
      · rename_i e hel
        have has' : as = #[x'] := by apply Array.ext'; simpa using has
        subst has'
        have hu := sliceElem_spec hel
        obtain ⟨z, hzr, hzl, hzs⟩ := zeroOk_spec (g := g) he
        have hr := agOpd_R hx ht
        have hrt : R g (.tup []) (.tuple #[]) := by simp only [R, RL]; exact ⟨[], rfl, rfl⟩
        have empty : ∀ {ad : Option Addr} {c : Nat}, a.eval x' = .slice ad 0 c → (execOp a.eval { dst, op := .call ⟨.builtin .clear, #[x'], ts⟩, type := ty, pos, after, guard }).run P w = .ok (.value (.tuple #[])) w := by
          intro ad c hxa
          cases ad <;> simp [execOp, resolve, invoke, builtin, Builtin.clear_, h0, run_underlying hu, hxa]
        simp only [effV] at hv
        split at hv
        · rename_i lim hxe
          simp only [Option.some.injEq, Prod.mk.injEq] at hv
          obtain ⟨rfl, rfl⟩ := hv
          rw [hxe] at hr
          simp only [R] at hr
          obtain ⟨ad, c, hxa, _⟩ := hr
          exact ⟨none, Effs.same hw (empty hxa) hrt, rfl, rfl, rfl, fun _ _ hh => by cases hh⟩
        · rename_i k ver off len w0 ag hxe
          rw [hxe] at hr
          split at hv
          · rename_i hl0
            rw [Nat.beq_eq] at hl0; subst hl0
            simp only [Option.some.injEq, Prod.mk.injEq] at hv
            obtain ⟨rfl, rfl⟩ := hv
            simp only [R] at hr
            rcases hr with ⟨_, _, _, hxa⟩ | ⟨b, s, c, _, hxa, _⟩ <;> exact ⟨none, Effs.same hw (empty hxa) hrt, rfl, rfl, rfl, fun _ _ hh => by cases hh⟩
          · rename_i hl0
            rw [Nat.beq_eq] at hl0
            split at hv
            · cases hv
            · rename_i hro
              have hro' : h.ro ≤ k := by simpa [Nat.blt_eq] using hro
              split at hv
              · rename_i ver' var cs hget
                split at hv
                · rename_i hc
                  simp only [Bool.and_eq_true, Nat.beq_eq, Nat.ble_eq] at hc
                  obtain ⟨⟨rfl, hle⟩, hwz⟩ := hc
                  simp only [Option.some.injEq, Prod.mk.injEq] at hv
                  obtain ⟨rfl, rfl⟩ := hv
                  simp only [R] at hr
                  rcases hr with ⟨_, _, hl, _⟩ | ⟨b, s, c, hi, hxa, hlc, hcs⟩
                  · exact absurd hl hl0
                  · obtain ⟨C, el, hC, hsz, hcl, hcells⟩ := hw.row (hos k _ hget) hi
                    subst hsz
                    have hzsz : z.cells.size = zero.length := by simpa using (RL_len hzl).symm
                    have hvlen : (Builtin.zeroCells z.cells len).toList.length = len * zero.length := by simp [Builtin.zeroCells, hzsz]
                    by_cases hz0 : zero.length = 0
                    · have hzz : zero = [] := List.eq_nil_of_length_eq_zero hz0
                      have hrep : replicateCells zero len = [] := by
                        apply List.eq_nil_of_length_eq_zero
                        rw [replicate_length, hz0]; omega
                      have hput : putAt cs off (replicateCells zero len) = cs := by simp [putAt, hrep]
                      have hzc : (Builtin.zeroCells z.cells len).toList = [] := by
                        apply List.eq_nil_of_length_eq_zero
                        rw [hvlen, hz0]; omega
                      refine ⟨some (k, .arr ver var (putAt cs off (replicateCells zero len))), ⟨_, .tuple #[], w, g, ?_, .inl rfl, hrt, ?_, Full.refl g, fun c => ?_⟩, Objs.get_set _ _ _ _ hget, rfl, rfl, fun k' ob hh => ?_⟩
                      · have hlen' : len ≠ 0 := hl0
                        obtain ⟨n, rfl⟩ := Nat.exists_eq_succ_of_ne_zero hl0
                        simp [execOp, resolve, invoke, builtin, Builtin.clear_, h0, run_underlying hu, hxa, hzr, hzc, storeCells]
                      · rw [hput]
                        have : updO m (some (k, .arr ver var cs)) = m := by
                          funext n; simp only [updO, upd]; split
                          · rename_i hn; rw [hn, hos k _ hget]
                          · rfl
                        rw [this]; exact hw
                      · rw [hput]
                        have : updO m (some (k, .arr ver var cs)) = m := by
                          funext n; simp only [updO, upd]; split
                          · rename_i hn; rw [hn, hos k _ hget]
                          · rfl
                        rw [this]; exact Tr.refl c _ g m w
                      · simp only [Option.some.injEq, Prod.mk.injEq] at hh
                        obtain ⟨rfl, _⟩ := hh
                        exact ⟨hro', by rw [hget]; rfl⟩
                    · have hzero := zeros_RL (n := len) hzl (by omega)
                      have hrl : (replicateCells zero len).length = len * zero.length := replicate_length zero len
                      have hle2 : off + (replicateCells zero len).length ≤ cs.length := by rw [hrl]; rw [← hwz]; exact hle
                      have hsc := replicate_scalars hzs len
                      have hrun := run_storeCells_at (P := P) b off el (Builtin.zeroCells z.cells len).toList 0 C w hC (by rw [hvlen, ← hrl]; omega) (RL_ones hzero hsc)
                      simp only [Nat.add_zero] at hrun
                      obtain ⟨p1, p2⟩ := row_put (g := g) hcl hcells hzero hsc (off := off) hle2
                      have hps : (putC C off (Builtin.zeroCells z.cells len).toList).size = C.size := putC_size (by rw [hvlen, ← hrl]; omega)
                      have hre := hw.rewrite (ver' := ver) (hos k _ hget) hi hC hps (Nat.le_refl _) p1 p2 (by rw [putAt_length hle2, hps]; exact hcl)
                      refine ⟨some (k, .arr ver var (putAt cs off (replicateCells zero len))), ⟨_, .tuple #[], _, _, ?_, .inl rfl, by simp only [R, RL]; exact ⟨[], rfl, rfl⟩, hre.1, hre.2.1, fun c => hre.2.2 c _⟩, Objs.get_set _ _ _ _ hget, rfl, rfl, fun k' ob hh => ?_⟩
                      · obtain ⟨n, rfl⟩ := Nat.exists_eq_succ_of_ne_zero hl0
                        simp [execOp, resolve, invoke, builtin, Builtin.clear_, h0, run_underlying hu, hxa, hzr, hrun, putC]
                      · simp only [Option.some.injEq, Prod.mk.injEq] at hh
                        obtain ⟨rfl, _⟩ := hh
                        exact ⟨hro', by rw [hget]; rfl⟩
                · cases hv
              · cases hv
        · cases hv
      · cases he
    · cases hag
  · cases hag

end Go.Va
/-! All operations that write, together. -/
namespace Go.Va

variable {P : Program} {g g' : G}

/-- append, whatever it is given -/
theorem appOp_ok {o : Oper} {t : T} {a : Act} {w : World} {h h' : H} {m : Mem} {nk by_ : Nat} {sh : Sh} {r0 : AV} {x y : Opd} (hag : agOp P o.op (.app sh by_ x y) = true) (ht : TOn g t a.tmps (x.use ++ y.use)) (hw : WOk g m w)
    (hos : ∀ k o, h.objs.get k = some o → m k = some o) (hn : ∀ ver, g.inj nk ver = none) (hv : effV t nk h (.app sh by_ x y) = some (r0, h')) :
    ∃ d, Effs P g m w nk (execOp a.eval o) r0 d ∧ h'.objs.get = updO h.objs.get d ∧ h'.cnt = h.cnt ∧ h'.ro = h.ro ∧ ∀ k ob, d = some (k, ob) → k = nk ∨ (h.ro ≤ k ∧ (h.objs.get k).isSome = true) := by
  simp only [effV] at hv
  unfold appV at hv
  split at hv
  · rename_i k ver off len w0 ag hxe
    obtain ⟨dst, op, ty, pos, after, guard⟩ := o
    simp only [agOp] at hag
    split at hag
    · rename_i as ts
      split at hag
      · rename_i x' y' t0 u0 has h0 h1
        simp only [Bool.and_eq_true] at hag
        obtain ⟨⟨⟨he, hue⟩, hx⟩, hy⟩ := hag
        split at he
        · rename_i e hel
          simp only [Bool.and_eq_true, Nat.blt_eq] at he
          obtain ⟨⟨⟨hsh, hby⟩, hby0⟩, hz⟩ := he
          have has' : as = #[x', y'] := by apply Array.ext'; simpa using has
          subst has'
          have hxr := agOpd_R hx (ht.sub (fun n hn => by simp only [List.mem_append]; exact .inl hn))
          have hyr := agOpd_R hy (ht.sub (fun n hn => by simp only [List.mem_append]; exact .inr hn))
          rw [hxe] at hxr
          split at hv
          · cases hv
          · rename_i hc
            simp only [Bool.or_eq_true, not_or, Bool.not_eq_true, Bool.not_eq_false', Nat.beq_eq] at hc
            obtain ⟨⟨⟨hro, hoff⟩, hws⟩, hcnt⟩ := hc
            subst hoff hws
            have hro' : h.ro ≤ k := by
              rw [← Bool.not_eq_true, Nat.blt_eq] at hro; omega
            have e2 : (#[x', y'] : Array Operand).map a.eval = #[a.eval x', a.eval y'] := by simp
            split at hv
            · rename_i n src hsrc
              split at hv
              · rename_i hn0
                rw [Nat.beq_eq] at hn0; subst hn0
                simp only [Option.some.injEq, Prod.mk.injEq] at hv
                obtain ⟨rfl, rfl⟩ := hv
                obtain ⟨vs, hS, _⟩ := run_src (P := P) hw hos hsrc hyr
                refine ⟨none, ?_, rfl, rfl, rfl, fun _ _ hh => by cases hh⟩
                rw [hxe]
                have hxr' := hxr
                simp only [R] at hxr'
                have fin : ∀ {ad : Option Addr} {c : Nat}, a.eval x' = .slice ad len c → len ≤ c → Effs P g m w nk (execOp a.eval { dst, op := .call ⟨.builtin .append, #[x', y'], ts⟩, type := ty, pos, after, guard }) (.slR k ver 0 len sh.size ag) none := by
                  intro ad c hxa hlc
                  have hrun := run_app0 (base := ad) (l := len) (c := c) hel hue hsh (ty := ty) h0 h1 hS hlc
                  refine Effs.same (cv := .slice ad len c) hw ?_ (by rw [← hxa]; exact hxr)
                  simp only [execOp, resolve, invoke, builtin, Sem.run_bind, Sem.run_pure, Result.andThen_ok]
                  rw [e2, hxa, hrun]
                  rfl
                rcases hxr' with ⟨_, _, hl, hxa⟩ | ⟨b, s, c, _, hxa, hlc, _⟩
                · subst hl; exact fin hxa (Nat.le_refl 0)
                · exact fin hxa hlc
              · rename_i hn0
                rw [Nat.beq_eq] at hn0
                split at hv
                · rename_i ver' var cs hget
                  split at hv
                  · rename_i hc
                    simp only [Bool.and_eq_true, Nat.beq_eq, Nat.ble_eq] at hc
                    obtain ⟨⟨⟨rfl, hle⟩, hs⟩, hroom⟩ := hc
                    simp only [Option.some.injEq, Prod.mk.injEq] at hv
                    obtain ⟨rfl, rfl⟩ := hv
                    obtain ⟨cv, w', g', q1, q2, q3, q4, q5⟩ := app_ok (P := P) (nk := nk) hw hos hget hel hue hsh hby hby0 hz (ty := ty) h0 h1 hxr hyr hsrc hn0 hle hs hroom
                    refine ⟨some (k, .arr (ver + 1) var (cs.take (len * sh.size) ++ src)), ⟨_, cv, w', g', ?_, .inl rfl, q2, q3, q4, q5⟩, Objs.get_set _ _ _ _ hget, rfl, rfl, fun k' ob hh => ?_⟩
                    · simp only [execOp, resolve, invoke, builtin, Sem.run_bind, Sem.run_pure, Result.andThen_ok]
                      rw [e2, q1]
                      rfl
                    · simp only [Option.some.injEq, Prod.mk.injEq] at hh
                      obtain ⟨rfl, _⟩ := hh
                      exact .inr ⟨hro', by rw [hget]; rfl⟩
                  · cases hv
                · cases hv
            · cases hv
        · cases he
      · cases hag
    · cases hag
  · rename_i hx
    have hal : ∀ ob, allocV t h.objs nk (.appN sh by_ x y) = some (r0, ob) → Makes P g m w nk (execOp a.eval o) r0 ob := fun ob hq => alloc_ok (ao := .appN sh by_ x y) hag ht hw hos hn hq
    split at hv
    · rename_i v ob hq
      simp only [Option.some.injEq, Prod.mk.injEq] at hv
      obtain ⟨rfl, rfl⟩ := hv
      refine ⟨some (nk, ob), (hal (some ob) hq).effs, Objs.get_cons _ _ _, rfl, rfl, fun k' ob' hh => ?_⟩
      simp only [Option.some.injEq, Prod.mk.injEq] at hh
      exact .inl hh.1.symm
    · rename_i v hq
      simp only [Option.some.injEq, Prod.mk.injEq] at hv
      obtain ⟨rfl, rfl⟩ := hv
      exact ⟨none, (hal none hq).effs, rfl, rfl, rfl, fun _ _ hh => by cases hh⟩
    · cases hv

theorem eff_ok {o : Oper} {ao : AOp} {t : T} {a : Act} {w : World} {h h' : H} {m : Mem} {nk : Nat} {r0 : AV} (hag : agOp P o.op ao = true) (ht : TOn g t a.tmps ao.uses) (hw : WOk g m w)
    (hos : ∀ k o, h.objs.get k = some o → m k = some o) (hn : ∀ ver, g.inj nk ver = none) (hv : effV t nk h ao = some (r0, h')) :
    ∃ d, Effs P g m w nk (execOp a.eval o) r0 d ∧ h'.objs.get = updO h.objs.get d ∧ h'.cnt = h.cnt ∧ h'.ro = h.ro ∧ ∀ k ob, d = some (k, ob) → k = nk ∨ (h.ro ≤ k ∧ (h.objs.get k).isSome = true) := by
  cases ao
  case store n p v =>
    simp only [effV] at hv
    split at hv
    · rename_i h1 hst
      simp only [Option.some.injEq, Prod.mk.injEq] at hv
      obtain ⟨rfl, rfl⟩ := hv
      obtain ⟨d, q1, q2, q3, q4, q5⟩ := storeOp_ok (P := P) (nk := nk) hag ht hw hos hst
      exact ⟨d, q1, q2, q3, q4, fun k ob hd => .inr ⟨(q5 k ob hd).1, (q5 k ob hd).2.1⟩⟩
    · cases hv
  case mupd kn mm k v =>
    simp only [effV] at hv
    split at hv
    · rename_i hs
      split at hv
      · rename_i h1 hst
        simp only [Option.some.injEq, Prod.mk.injEq] at hv
        obtain ⟨rfl, rfl⟩ := hv
        obtain ⟨d, q1, q2, q3, q4, q5⟩ := mupd_ok (P := P) (nk := nk) hag ht hw hos hs hst
        exact ⟨d, q1, q2, q3, q4, fun k ob hd => .inr (q5 k ob hd)⟩
      · cases hv
    · cases hv
  case ment zero kn mm k =>
    obtain ⟨d, q1, q2, q3, q4, q5⟩ := ment_ok (P := P) (nk := nk) hag ht hw hos hv
    exact ⟨d, q1, q2, q3, q4, fun k ob hd => .inr (q5 k ob hd)⟩
  case estore mm s v =>
    obtain ⟨d, q1, q2, q3, q4, q5⟩ := estore_ok (P := P) (nk := nk) hag ht hw hos hv
    exact ⟨d, q1, q2, q3, q4, fun k ob hd => .inr (q5 k ob hd)⟩
  case app sh by_ x y => exact appOp_ok hag ht hw hos hn hv
  case clear zero x =>
    obtain ⟨d, q1, q2, q3, q4, q5⟩ := clear_ok (P := P) (nk := nk) hag ht hw hos hv
    exact ⟨d, q1, q2, q3, q4, fun k ob hd => .inr (q5 k ob hd)⟩
  all_goals simp [effV] at hv

end Go.Va
/-! Freezing: an object is struck, its row stays as it is from now on. -/
namespace Go.Va

variable {P : Program} {g g' : G}

def delM (m : Mem) (k : Nat) : Mem := fun n => if n = k then none else m n

theorem Objs.get_del : ∀ (os : Objs) (k : Nat), (os.del k).get = delM os.get k
  | [], k => by funext n; simp [Objs.del, Objs.get, delM]
  | (k0, x) :: r, k => by
    funext n
    have ih := congrFun (Objs.get_del r k) n
    simp only [Objs.del]
    by_cases hk : k0 = k
    · subst hk
      simp only [Nat.beq_refl, if_true, ih, delM, Objs.get]
      by_cases hn : n = k0
      · simp [hn]
      · have : Nat.beq k0 n = false := by rw [← Bool.not_eq_true, Nat.beq_eq]; omega
        simp [this, hn]
    · have hb : Nat.beq k0 k = false := by rw [← Bool.not_eq_true, Nat.beq_eq]; exact hk
      simp only [hb, Bool.false_eq_true, if_false, Objs.get, ih, delM]
      by_cases hn : n = k
      · subst hn; simp [hb]
      · simp [hn]

def Sub (m m' : Mem) : Prop := ∀ k o, m k = some o → m' k = some o

theorem Sub.refl (m : Mem) : Sub m m := fun _ _ h => h
theorem Sub.trans {m m' m'' : Mem} (h : Sub m m') (h' : Sub m' m'') : Sub m m'' := fun k o x => h' k o (h k o x)
theorem Sub.del (m : Mem) (k : Nat) : Sub (delM m k) m := fun n o h => by
  simp only [delM] at h; split at h
  · cases h
  · exact h

theorem Sub.none {m m' : Mem} (h : Sub m' m) {k : Nat} (hk : m k = none) : m' k = none := by
  cases hx : m' k with
  | none => rfl
  | some o => rw [h k o hx] at hk; cases hk

theorem Sub.owns {m m' : Mem} (h : Sub m m') {k b : Nat} (ho : Owns g m k b) : Owns g m' k b := by
  obtain ⟨o, s, h1, h2⟩ := ho
  exact ⟨o, s, h _ _ h1, h2⟩

theorem WOk.sub {m m' : Mem} {w : World} (hw : WOk g m w) (h : Sub m' m) : WOk g m' w :=
  ⟨hw.immc, hw.immm, fun k o hm => hw.objs k o (h k o hm), fun k k' b h1 h2 => hw.sep k k' b (h.owns h1) (h.owns h2), fun k b ho => hw.own k b (h.owns ho), fun k o hm => hw.vers k o (h k o hm)⟩

theorem Tr.sub {m m' : Mem} (h : Sub m' m) (c : Nat) (N : Nat → Prop) (w : World) : Tr c N g m w g m' w :=
  ⟨Ext.refl c g, fun _ _ _ hm => ⟨h.none hm, fun _ => rfl⟩, Nat.le_refl _, fun _ _ _ => ⟨rfl, fun _ => rfl, rfl⟩, fun k _ ho => .inl ⟨k, h.owns ho⟩, rfl, rfl, rfl, fun _ => rfl⟩

/-- a row that belonged to an object is fixed -/
theorem Tr.fix {c : Nat} {N : Nat → Prop} {g1 : G} {m m1 : Mem} {w w' : World} (h : Tr c N g m w g1 m1 w') {k b off : Nat} {ds : List AV} (ho : Owns g m k b) (hno : ∀ o, g1.imm b o = none) :
    Tr c N g m w (g1.fix b off ds) m1 w' where
  ext := ⟨fun b' o a x => (Full.fix hno).imm _ _ _ (h.ext.imm b' o a x), h.ext.immM, h.ext.inj⟩
  unal := h.unal
  size := h.size
  keep := fun b' hb hn => by
    have hne : b' ≠ b := by rintro rfl; exact hn k ho
    obtain ⟨h1, h2, h3⟩ := h.keep b' hb hn
    refine ⟨h1, fun o => ?_, h3⟩
    rw [← h2 o]
    simp [G.fix, hne]
  foot := h.foot
  os := h.os
  output := h.output
  tape := h.tape
  frz := h.frz

theorem Tr.fixM {c : Nat} {N : Nat → Prop} {g1 : G} {m m1 : Mem} {w w' : World} (h : Tr c N g m w g1 m1 w') {k b : Nat} {ks ds : List AV} (ho : Owns g m k b) (hno : g1.immM b = none) :
    Tr c N g m w (g1.fixM b ks ds) m1 w' where
  ext := ⟨h.ext.imm, fun b' x y => (Full.fixM hno).immM _ _ (h.ext.immM b' x y), h.ext.inj⟩
  unal := h.unal
  size := h.size
  keep := fun b' hb hn => by
    have hne : b' ≠ b := by rintro rfl; exact hn k ho
    obtain ⟨h1, h2, h3⟩ := h.keep b' hb hn
    refine ⟨h1, h2, ?_⟩
    rw [← h3]
    simp [G.fixM, hne]
  foot := h.foot
  os := h.os
  output := h.output
  tape := h.tape
  frz := h.frz

/-- a row without an owner is fixed -/
theorem WOk.fixRow {m : Mem} {w : World} (hw : WOk g m w) {b off : Nat} {ds : List AV} (hno : ∀ k, ¬ Owns g m k b) (hi : ∀ o, g.imm b o = none) (hM : g.immM b = none)
    (hr : ∀ (j : Nat) (d : AV), ds[j]? = some d → ∃ v, w.cell? ⟨b, off + j, none⟩ = some v ∧ R g d v ∧ d.scalar = true ∧ d.isData) : WOk (g.fix b off ds) m w := by
  have hf := Full.fix (g := g) (b := b) (off := off) (cs := ds) hi
  refine ⟨fun b' o a ha => ?_, fun b' ks vs ha => ?_, fun k o hm => (hw.objs k o hm).mono hf (fun _ _ _ => rfl), hw.sep, fun k b' ho => ?_, hw.vers⟩
  · simp only [G.fix] at ha
    split at ha
    · rename_i hc
      obtain ⟨rfl, h1, h2⟩ := hc
      obtain ⟨v, q1, q2, q3⟩ := hr _ a ha
      rw [show off + (o - off) = o by omega] at q1
      exact ⟨v, q1, hf.R q2, q3⟩
    · obtain ⟨v, q1, q2, q3⟩ := hw.immc b' o a ha
      exact ⟨v, q1, hf.R q2, q3⟩
  · obtain ⟨h0, h1, es, h2, h3⟩ := hw.immm b' ks vs ha
    have hne : b' ≠ b := by rintro rfl; simp only [G.fix] at ha; rw [hM] at ha; cases ha
    exact ⟨fun o => by simp only [G.fix]; rw [if_neg (fun hc => hne hc.1)]; exact h0 o, h1, es, h2, h3.mono hf⟩
  · have hne : b' ≠ b := by rintro rfl; exact hno k ho
    obtain ⟨h1, h2⟩ := hw.own k b' ho
    exact ⟨fun o => by simp only [G.fix]; rw [if_neg (fun hc => hne hc.1)]; exact h1 o, h2⟩

theorem WOk.fixMap {m : Mem} {w : World} (hw : WOk g m w) {b : Nat} {ks ds : List AV} {es : Array MapEntry} (hno : ∀ k, ¬ Owns g m k b) (hi : ∀ o, g.imm b o = none) (hM : g.immM b = none)
    (hb : w.heap[b]? = some (.map es es.size)) (he : Entries g es ks ds) (hd : AV.datas ks = some ks ∧ AV.datas ds = some ds) : WOk (g.fixM b ks ds) m w := by
  have hf := Full.fixM (g := g) (b := b) (ks := ks) (vs := ds) hM
  refine ⟨fun b' o a ha => ?_, fun b' ks' vs' ha => ?_, fun k o hm => (hw.objs k o hm).mono hf (fun _ _ _ => rfl), hw.sep, fun k b' ho => ?_, hw.vers⟩
  · obtain ⟨v, q1, q2, q3⟩ := hw.immc b' o a ha
    exact ⟨v, q1, hf.R q2, q3⟩
  · simp only [G.fixM] at ha
    split at ha
    · rename_i hc
      subst hc
      simp only [Option.some.injEq, Prod.mk.injEq] at ha
      obtain ⟨rfl, rfl⟩ := ha
      exact ⟨hi, hd, es, hb, he.mono hf⟩
    · obtain ⟨h0, h1, es, h2, h3⟩ := hw.immm b' ks' vs' ha
      exact ⟨h0, h1, es, h2, h3.mono hf⟩
  · have hne : b' ≠ b := by rintro rfl; exact hno k ho
    obtain ⟨h1, h2⟩ := hw.own k b' ho
    exact ⟨h1, by simp only [G.fixM]; rw [if_neg hne]; exact h2⟩

/-- what a freezing leaves behind -/
structure Fz (g : G) (os : Objs) (w : World) (ro : Nat) (g' : G) (os' : Objs) : Prop where
  full : Full g g'
  wok : WOk g' os'.get w
  sub : Sub os'.get os.get
  low : ∀ k, k < ro → os'.get k = os.get k
  tr : ∀ c N, Tr c N g os.get w g' os'.get w
  inj : g'.inj = g.inj

theorem Fz.refl {os : Objs} {w : World} {ro : Nat} (hw : WOk g os.get w) : Fz g os w ro g os :=
  ⟨Full.refl g, hw, Sub.refl _, fun _ _ => rfl, fun c N => Tr.refl c N g os.get w, rfl⟩

theorem Full.trans {g g' g'' : G} (h : Full g g') (h' : Full g' g'') : Full g g'' :=
  ⟨fun b o a x => h'.imm _ _ _ (h.imm b o a x), fun b x y => h'.immM _ _ (h.immM b x y), fun k v p x => h'.inj _ _ _ (h.inj k v p x)⟩

theorem Fz.trans {g g' g'' : G} {os os' os'' : Objs} {w : World} {ro : Nat} (h : Fz g os w ro g' os') (h' : Fz g' os' w ro g'' os'') : Fz g os w ro g'' os'' :=
  ⟨h.full.trans h'.full, h'.wok, h'.sub.trans h.sub, fun k hk => (h'.low k hk).trans (h.low k hk), fun c N => ((h.tr c N).trans (h'.tr c N) (Nat.le_refl c)).weaken (Nat.le_refl c) (fun _ _ hk => hk.elim id id), h'.inj.trans h.inj⟩

/-- what a frozen value is -/
structure FzV (g' : G) (v d : AV) (cv : Value) : Prop where
  rel : R g' d cv
  data : d.isData
  scal : v.scalar = true → d.scalar = true
  cells : d.cells.length = v.cells.length ∧ (scalars v.cells = true → scalars d.cells = true)

def FzOk (w : World) (ro : Nat) (f : Objs → AV → Option (AV × Objs)) : Prop :=
  ∀ (g : G) (os os' : Objs) (v d : AV) (cv : Value), f os v = some (d, os') → WOk g os.get w → R g v cv → ∃ g', Fz g os w ro g' os' ∧ FzV g' v d cv

theorem data_cells {v d : AV} (h : AV.data v = some d) : d.cells.length = v.cells.length ∧ (scalars v.cells = true → scalars d.cells = true) := by
  by_cases hv : ∃ cs, v = .agg cs
  · obtain ⟨cs, rfl⟩ := hv
    simp only [AV.data] at h
    split at h
    · rename_i ds hds
      simp only [Option.some.injEq] at h; subst h
      exact ⟨(datas_length hds).symm, fun hs => datas_scalars hds hs⟩
    · cases h
  · have h1 : v.cells = [v] := by cases v <;> first | rfl | exact absurd ⟨_, rfl⟩ hv
    have h2 : d.cells = [d] := by
      cases v <;> simp only [AV.data, reduceCtorEq, Option.some.injEq] at h <;> first
        | (subst h; rfl)
        | exact absurd ⟨_, rfl⟩ hv
        | (split at h
           · first
             | (simp only [Option.some.injEq] at h; subst h; rfl)
             | (split at h
                · simp only [Option.some.injEq] at h; subst h; rfl
                · cases h)
           · cases h)
    rw [h1, h2]
    refine ⟨rfl, fun hs => ?_⟩
    simp only [scalars, Bool.and_true] at hs ⊢
    exact data_scalar h hs

theorem FzV.ofData {v d : AV} {cv : Value} (h : AV.data v = some d) (hr : R g v cv) : FzV g v d cv :=
  ⟨R_data ⟨fun _ _ _ h => h, fun _ _ h => h⟩ h hr, data_data h, fun hs => data_scalar h hs, data_cells h⟩

theorem fzMany_ok {w : World} {ro : Nat} {f : Objs → AV → Option (AV × Objs)} (hf : FzOk w ro f) : ∀ {vs ds : List AV} {cvs : List Value} {g : G} {os os' : Objs}, fzMany f os vs = some (ds, os') → WOk g os.get w → RL g vs cvs →
    ∃ g', Fz g os w ro g' os' ∧ RL g' ds cvs ∧ AV.datas ds = some ds ∧ ds.length = vs.length ∧ (scalars vs = true → scalars ds = true)
  | [], ds, cvs, g, os, os', h, hw, hr => by
    simp only [fzMany, Option.some.injEq, Prod.mk.injEq] at h
    obtain ⟨rfl, rfl⟩ := h
    exact ⟨g, Fz.refl hw, hr, rfl, rfl, fun h => h⟩
  | v :: vs, ds, cvs, g, os, os', h, hw, hr => by
    simp only [fzMany] at h
    split at h
    · rename_i d os1 h1
      split at h
      · rename_i ds' os2 h2
        simp only [Option.some.injEq, Prod.mk.injEq] at h
        obtain ⟨rfl, rfl⟩ := h
        simp only [RL] at hr
        obtain ⟨cv, cvs', rfl, hr1, hr2⟩ := hr
        obtain ⟨g1, hz1, hv1⟩ := hf _ _ _ _ _ _ h1 hw hr1
        obtain ⟨g2, hz2, hl, hd, hlen, hsc⟩ := fzMany_ok hf h2 hz1.wok (hz1.full.RL hr2)
        refine ⟨g2, hz1.trans hz2, ?_, ?_, by simp [hlen], fun hs => ?_⟩
        · simp only [RL]; exact ⟨cv, cvs', rfl, hz2.full.R hv1.rel, hl⟩
        · have := hv1.data
          unfold AV.isData at this
          simp [AV.datas, this, hd]
        · simp only [scalars, Bool.and_eq_true] at hs ⊢
          exact ⟨hv1.scal hs.1, hsc hs.2⟩
      · cases h
    · cases h

end Go.Va
/-! Freezing values. -/
namespace Go.Va

variable {P : Program} {g g' : G}

theorem RL_part {cs : List AV} {C : Array Value} (hl : cs.length ≤ C.size) (hcells : ∀ (j : Nat) (c : AV), cs[j]? = some c → ∃ v, C[j]? = some v ∧ R g c v ∧ c.scalar = true) {off n : Nat} (hle : off + n ≤ cs.length) :
    RL g ((cs.drop off).take n) ((C.toList.drop off).take n) ∧ scalars ((cs.drop off).take n) = true := by
  refine ⟨RL_mk (by simp; omega) fun j c v hc hv => ?_, scalars_of_get fun j c hc => ?_⟩
  · rw [List.getElem?_take] at hc hv
    split at hc
    · rename_i hj
      simp only [hj, if_true] at hv
      rw [List.getElem?_drop] at hc hv
      obtain ⟨u, h1, h2, _⟩ := hcells _ c hc
      have : C[off + j]? = some v := by simpa using hv
      rw [h1] at this
      simp only [Option.some.injEq] at this; subst this; exact h2
    · cases hc
  · rw [List.getElem?_take] at hc
    split at hc
    · rw [List.getElem?_drop] at hc
      exact (hcells _ c hc).choose_spec.2.2
    · cases hc

/-- the owner's block before and after a freezing that does not touch it -/
theorem Fz.kept {os os1 : Objs} {w : World} {ro k b : Nat} {g1 : G} (hw : WOk g os.get w) (ho : Owns g os.get k b) (hz : Fz g (os.del k) w ro g1 os1) :
    (∀ o, g1.imm b o = none) ∧ g1.immM b = none ∧ (∀ k', ¬ Owns g1 os1.get k' b) ∧ (∀ c N, Tr c N g os.get w g1 os1.get w) := by
  have hsub : Sub (os.del k).get os.get := by rw [Objs.get_del]; exact Sub.del _ _
  have hno : ∀ k', ¬ Owns g (os.del k).get k' b := by
    rintro k' h
    have hk := hw.sep k' k b (hsub.owns h) ho
    subst hk
    obtain ⟨o, s, h1, _⟩ := h
    rw [Objs.get_del] at h1
    simp [delM] at h1
  have hblt : b < w.heap.size := by
    obtain ⟨o, s, h1, h2⟩ := ho
    exact (hw.objs k o h1).lt h2
  obtain ⟨h1, h2⟩ := hw.own k b ho
  obtain ⟨_, h3, h4⟩ := (hz.tr 0 (fun _ => False)).keep b hblt hno
  refine ⟨fun o => (h3 o).trans (h1 o), h4.trans h2, fun k' h => ?_, fun c N => ((Tr.sub hsub c N w).trans (hz.tr c N) (Nat.le_refl c)).weaken (Nat.le_refl c) (fun _ _ hk => hk.elim id id)⟩
  refine hno k' ?_
  obtain ⟨o, s, q1, q2⟩ := h
  rw [hz.inj] at q2
  exact ⟨o, s, hz.sub _ _ q1, q2⟩

theorem Fz.low_del {os os1 : Objs} {w : World} {ro k : Nat} {g1 : G} (hk : ro ≤ k) (hz : Fz g (os.del k) w ro g1 os1) : Sub os1.get os.get ∧ ∀ n, n < ro → os1.get n = os.get n := by
  have hsub : Sub (os.del k).get os.get := by rw [Objs.get_del]; exact Sub.del _ _
  refine ⟨hz.sub.trans hsub, fun n hn => (hz.low n hn).trans ?_⟩
  rw [Objs.get_del]
  simp only [delM]
  rw [if_neg (by omega)]

theorem Fz.row {os os1 : Objs} {w : World} {ro k ver b s off : Nat} {var : Bool} {cs ds : List AV} {g1 : G} (hw : WOk g os.get w) (hk : ro ≤ k) (hget : os.get k = some (.arr ver var cs)) (hi : g.inj k ver = some (.at b s)) {C : Array Value} {el : TypeId}
    (hC : w.heap[b]? = some (.cells C el (0, 0))) (hz : Fz g (os.del k) w ro g1 os1) (hr : RL g1 ds ((C.toList.drop off).take ds.length)) (hd : AV.datas ds = some ds) (hs : scalars ds = true) :
    Fz g os w ro (g1.fix b off ds) os1 := by
  have ho : Owns g os.get k b := ⟨_, s, hget, hi⟩
  obtain ⟨h1, h2, h3, h4⟩ := hz.kept hw ho
  obtain ⟨q1, q2⟩ := hz.low_del hk
  refine ⟨hz.full.trans (Full.fix h1), hz.wok.fixRow h3 h1 h2 fun j d hj => ?_, q1, q2, fun c N => (h4 c N).fix ho h1, hz.inj⟩
  obtain ⟨v, hv, hrv⟩ := RL_get hr j d hj
  rw [List.getElem?_take] at hv
  split at hv
  · rw [List.getElem?_drop] at hv
    refine ⟨v, ?_, hrv, scalars_get hs j d hj, ?_⟩
    · simp only [World.cell?, hC]
      simpa using hv
    · obtain ⟨c', p1, p2⟩ := datas_get hd j d hj
      rw [hj] at p1
      simp only [Option.some.injEq] at p1; subst p1; exact p2
  · cases hv

theorem keys_data {es : Array MapEntry} {ks vs : List AV} (h : Entries g es ks vs) : AV.datas ks = some ks := by
  have key : ∀ k ∈ ks, AV.data k = some k := by
    intro k hk
    obtain ⟨i, hi⟩ := List.mem_iff_getElem?.1 hk
    have hlt := (List.getElem?_eq_some_iff.1 hi).1
    rw [h.1] at hlt
    obtain ⟨_, ⟨k', kn, kc, h1, _, h2⟩, _⟩ := h.2.2 i es[i] (by simp [hlt])
    rw [hi] at h1
    simp only [Option.some.injEq] at h1; subst h1
    obtain ⟨rfl, _, h3⟩ := keyOf_spec h2
    have : ∀ l : List AV, (∀ c ∈ l, isInt1 c = true) → AV.datas l = some l := by
      intro l
      induction l with
      | nil => intro _; rfl
      | cons a l ih =>
        intro h
        have h1 := h a (by simp)
        cases a <;> simp only [isInt1, Bool.false_eq_true] at h1
        simp [AV.datas, AV.data, ih (fun c hc => h c (by simp [hc]))]
    simp [AV.data, this kc h3]
  have : ∀ l : List AV, (∀ c ∈ l, AV.data c = some c) → AV.datas l = some l := by
    intro l
    induction l with
    | nil => intro _; rfl
    | cons a l ih =>
      intro h
      simp [AV.datas, h a (by simp), ih (fun c hc => h c (by simp [hc]))]
  exact this ks key

theorem freezeV_ok {w : World} {ro : Nat} : ∀ n, FzOk w ro (freezeV ro n)
  | 0 => by
    intro g os os' v d cv h _ _
    simp [freezeV] at h
  | n + 1 => by
    intro g os os' v d cv h hw hr
    have ih := freezeV_ok (w := w) (ro := ro) n
    have leaf : ∀ {v : AV}, R g v cv → (match v.data with | some d => some (d, os) | none => none) = some (d, os') → ∃ g', Fz g os w ro g' os' ∧ FzV g' v d cv := by
      intro v hr h
      split at h
      · rename_i d' hd
        simp only [Option.some.injEq, Prod.mk.injEq] at h
        obtain ⟨rfl, rfl⟩ := h
        exact ⟨g, Fz.refl hw, FzV.ofData hd hr⟩
      · cases h
    have many : ∀ {cs ds : List AV} {vs : List Value}, fzMany (freezeV ro n) os cs = some (ds, os') → RL g cs vs → ∃ g', Fz g os w ro g' os' ∧ RL g' ds vs ∧ AV.datas ds = some ds ∧ ds.length = cs.length ∧ (scalars cs = true → scalars ds = true) :=
      fun h1 h2 => fzMany_ok ih h1 hw h2
    cases v
    case slR k ver off len sw ag =>
      simp only [freezeV] at h
      split at h
      · cases h
      · rename_i hro
        have hro' : ro ≤ k := by simpa [Nat.blt_eq] using hro
        split at h
        · rename_i ver' var cs hget
          split at h
          · rename_i hc
            simp only [Bool.and_eq_true, Nat.beq_eq, Nat.ble_eq] at hc
            obtain ⟨rfl, hle⟩ := hc
            split at h
            · rename_i ds os1 hds
              split at h
              · rename_i xs hxs
                simp only [Option.some.injEq, Prod.mk.injEq] at h
                obtain ⟨rfl, rfl⟩ := h
                have hwd : WOk g (os.del k).get w := hw.sub (by rw [Objs.get_del]; exact Sub.del _ _)
                simp only [R] at hr
                rcases hr with ⟨hi, ho0, hl0, hcv⟩ | ⟨b, s, c, hi, hcv, hlc, hcs⟩
                · subst ho0 hl0
                  have hcs0 : ((cs.drop 0).take (0 * sw)) = [] := by simp
                  rw [hcs0] at hds
                  simp only [fzMany, Option.some.injEq, Prod.mk.injEq] at hds
                  obtain ⟨rfl, rfl⟩ := hds
                  simp only [elemsOf, Option.some.injEq] at hxs; subst hxs
                  have hsub : Sub (os.del k).get os.get := by rw [Objs.get_del]; exact Sub.del _ _
                  refine ⟨g, ⟨Full.refl g, hwd, hsub, fun n hn => ?_, fun c N => Tr.sub hsub c N w, rfl⟩, ⟨?_, rfl, fun _ => rfl, rfl, fun _ => rfl⟩⟩
                  · rw [Objs.get_del]; simp only [delM]; rw [if_neg (by omega)]
                  · rw [hcv]; exact R_slice_nil
                · obtain ⟨C, el, hC, hsz, hcl, hcells⟩ := hw.row hget hi
                  subst hsz
                  obtain ⟨hrl, hsl⟩ := RL_part hcl hcells hle
                  obtain ⟨g1, hz, hr1, hd1, hlen, hsc⟩ := fzMany_ok ih hds hwd hrl
                  have hdl : ds.length = len * sw := by rw [hlen]; simp; omega
                  have hsd := hsc hsl
                  have hzr := Fz.row hw hro' hget hi hC hz (ds := ds) (off := off) (by rw [hdl]; exact hr1) hd1 hsd
                  refine ⟨_, hzr, ⟨?_, rfl, fun _ => rfl, rfl, fun _ => rfl⟩⟩
                  obtain ⟨hxl, _⟩ := elemsOf_spec hxs hsd
                  rw [hcv]
                  simp only [R]
                  exact ⟨_, c, by rw [hxl], by rw [hxl]; exact hlc, by simp, fun _ => ⟨b, off, _, rfl, elems_imm hxs hsd (fix_row _ _ _)⟩⟩
              · cases h
            · cases h
          · cases h
        · cases h
    case mapR r =>
      simp only [freezeV] at h
      split at h
      · cases h
      · rename_i hro
        have hro' : ro ≤ r := by simpa [Nat.blt_eq] using hro
        split at h
        · rename_i ks vs hget
          split at h
          · rename_i ds os1 hds
            simp only [Option.some.injEq, Prod.mk.injEq] at h
            obtain ⟨rfl, rfl⟩ := h
            have hwd : WOk g (os.del r).get w := hw.sub (by rw [Objs.get_del]; exact Sub.del _ _)
            simp only [R] at hr
            obtain ⟨b, s, hi, hcv⟩ := hr
            obtain ⟨b', s', es, h1, h2, h3⟩ := hw.objs r _ hget
            rw [hi] at h1
            simp only [Option.some.injEq, Pl.at.injEq] at h1
            obtain ⟨rfl, rfl⟩ := h1
            have hrl : RL g vs (es.toList.map (·.val)) := by
              refine RL_mk (by simp [h3.2.1]) fun j c v hc hv => ?_
              rw [List.getElem?_map] at hv
              cases he : es.toList[j]? with
              | none => rw [he] at hv; cases hv
              | some e =>
                rw [he] at hv
                simp only [Option.map_some, Option.some.injEq] at hv; subst hv
                obtain ⟨_, _, v', p1, p2, _⟩ := h3.2.2 j e (by simpa using he)
                rw [hc] at p1
                simp only [Option.some.injEq] at p1; subst p1; exact p2
            -- cells of frozen values: kept entry by entry
            have pt : ∀ {vs ds : List AV} {cvs : List Value} {g : G} {os os' : Objs}, fzMany (freezeV ro n) os vs = some (ds, os') → WOk g os.get w → RL g vs cvs →
                ∃ g', Fz g os w ro g' os' ∧ RL g' ds cvs ∧ AV.datas ds = some ds ∧ ds.length = vs.length ∧ ∀ (j : Nat) (v d : AV), vs[j]? = some v → ds[j]? = some d → scalars v.cells = true → scalars d.cells = true := by
              intro vs
              induction vs with
              | nil =>
                intro ds cvs g os os' h hw hr
                simp only [fzMany, Option.some.injEq, Prod.mk.injEq] at h
                obtain ⟨rfl, rfl⟩ := h
                exact ⟨g, Fz.refl hw, hr, rfl, rfl, fun j v d hv => by simp at hv⟩
              | cons v vs ihv =>
                intro ds cvs g os os' h hw hr
                simp only [fzMany] at h
                split at h
                · rename_i d os1 h1
                  split at h
                  · rename_i ds' os2 h2
                    simp only [Option.some.injEq, Prod.mk.injEq] at h
                    obtain ⟨rfl, rfl⟩ := h
                    simp only [RL] at hr
                    obtain ⟨cv, cvs', rfl, hr1, hr2⟩ := hr
                    obtain ⟨g1, hz1, hv1⟩ := ih _ _ _ _ _ _ h1 hw hr1
                    obtain ⟨g2, hz2, hl, hd, hlen, hsc⟩ := ihv h2 hz1.wok (hz1.full.RL hr2)
                    refine ⟨g2, hz1.trans hz2, ?_, ?_, by simp [hlen], fun j v' d' hv' hd' => ?_⟩
                    · simp only [RL]; exact ⟨cv, cvs', rfl, hz2.full.R hv1.rel, hl⟩
                    · have := hv1.data
                      unfold AV.isData at this
                      simp [AV.datas, this, hd]
                    · cases j with
                      | zero =>
                        simp only [List.getElem?_cons_zero, Option.some.injEq] at hv' hd'
                        subst hv' hd'
                        exact hv1.cells.2
                      | succ j => exact hsc j v' d' (by simpa using hv') (by simpa using hd')
                  · cases h
                · cases h
            obtain ⟨g1, hz, hr1, hd1, hlen, hsc⟩ := pt hds hwd hrl
            have ho : Owns g os.get r b := ⟨_, s, hget, hi⟩
            obtain ⟨p1, p2, p3, p4⟩ := hz.kept hw ho
            obtain ⟨q1, q2⟩ := hz.low_del hro'
            have he' : Entries g1 es ks ds := by
              refine ⟨h3.1, by rw [hlen]; exact h3.2.1, fun i e he => ?_⟩
              obtain ⟨x1, ⟨k, kn, kc, x2, x3, x4⟩, v, x5, x6, x7⟩ := h3.2.2 i e he
              refine ⟨x1, ⟨k, kn, kc, x2, hz.full.R x3, x4⟩, ?_⟩
              have hlt := (List.getElem?_eq_some_iff.1 x5).1
              have hdi : ds[i]? = some (ds[i]'(by omega)) := by simp
              refine ⟨_, hdi, ?_, hsc i v _ x5 hdi x7⟩
              obtain ⟨u, y1, y2⟩ := RL_get hr1 i _ hdi
              rw [List.getElem?_map] at y1
              have : es.toList[i]? = some e := by simpa using he
              rw [this] at y1
              simp only [Option.map_some, Option.some.injEq] at y1; subst y1; exact y2
            refine ⟨g1.fixM b ks ds, ⟨hz.full.trans (Full.fixM p2), hz.wok.fixMap p3 p1 p2 h2 he' ⟨keys_data h3, hd1⟩, q1, q2, fun c N => (p4 c N).fixM ho p2, hz.inj⟩, ⟨?_, rfl, fun _ => rfl, rfl, fun _ => rfl⟩⟩
            simp only [R]
            exact ⟨b, hcv, by simp [G.fixM]⟩
          · cases h
        · cases h
    case agg cs =>
      simp only [freezeV] at h
      split at h
      · rename_i ds os1 hds
        simp only [Option.some.injEq, Prod.mk.injEq] at h
        obtain ⟨rfl, rfl⟩ := h
        simp only [R] at hr
        obtain ⟨vs, hcv, hrl⟩ := hr
        obtain ⟨g1, hz, hr1, hd1, hlen, hsc⟩ := many hds hrl
        refine ⟨g1, hz, ⟨?_, ?_, fun h => by simp [AV.scalar] at h, hlen, hsc⟩⟩
        · simp only [R]; exact ⟨vs, hcv, hr1⟩
        · simp [AV.isData, AV.data, hd1]
      · cases h
    case tup cs =>
      simp only [freezeV] at h
      split at h
      · rename_i ds os1 hds
        simp only [Option.some.injEq, Prod.mk.injEq] at h
        obtain ⟨rfl, rfl⟩ := h
        simp only [R] at hr
        obtain ⟨vs, hcv, hrl⟩ := hr
        obtain ⟨g1, hz, hr1, hd1, hlen, hsc⟩ := many hds hrl
        refine ⟨g1, hz, ⟨?_, ?_, fun h => by simp [AV.scalar] at h, rfl, fun h => by simp [AV.cells, scalars, AV.scalar] at h⟩⟩
        · simp only [R]; exact ⟨vs, hcv, hr1⟩
        · simp [AV.isData, AV.data, hd1]
      · cases h
    all_goals
      simp only [freezeV] at h
      exact leaf hr h

end Go.Va
/-! Freezing temporaries; what is dropped at the end of a block. -/
namespace Go.Va

variable {P : Program} {g g' : G}

theorem freezeP_ok {w : World} {ro : Nat} {os os' : Objs} {v d : AV} {cv : Value} (h : freezeP ro os v = some (d, os')) (hw : WOk g os.get w) (hr : R g v cv) : ∃ g', Fz g os w ro g' os' ∧ R g' d cv := by
  unfold freezeP at h
  split at h
  · rename_i k ver off
    split at h
    · rename_i hc
      simp only [Bool.and_eq_true, Nat.beq_eq, Nat.ble_eq] at hc
      obtain ⟨rfl, hro⟩ := hc
      split at h
      · rename_i ver' var cs hget
        split at h
        · rename_i hv
          rw [Nat.beq_eq] at hv; subst hv
          split at h
          · rename_i d' os1 hfz
            simp only [Option.some.injEq, Prod.mk.injEq] at h
            obtain ⟨rfl, rfl⟩ := h
            simp only [R] at hr
            obtain ⟨b, s, hi, hcv⟩ := hr
            obtain ⟨C, el, hC, hsz, hcl, hcells⟩ := hw.row hget hi
            subst hsz
            have hwd : WOk g (os.del k).get w := hw.sub (by rw [Objs.get_del]; exact Sub.del _ _)
            obtain ⟨hrl, hsl⟩ := RL_part hcl hcells (off := 0) (n := cs.length) (by omega)
            have e1 : (cs.drop 0).take cs.length = cs := by simp
            rw [e1] at hrl hsl
            unfold deep freezeV at hfz
            simp only at hfz
            split at hfz
            · rename_i ds os2 hds
              simp only [Option.some.injEq, Prod.mk.injEq] at hfz
              obtain ⟨rfl, rfl⟩ := hfz
              obtain ⟨g1, hz, hr1, hd1, hlen, hsc⟩ := fzMany_ok (freezeV_ok (w := w) (ro := ro) 5) hds hwd hrl
              have hzr := Fz.row hw hro hget hi hC hz (ds := ds) (off := 0) (by rw [hlen]; exact hr1) hd1 (hsc hsl)
              refine ⟨_, hzr, ?_⟩
              simp only [R]
              exact ⟨b, 0, hcv, fix_row _ _ _⟩
            · cases hfz
          · cases h
        · cases h
      · cases h
    · cases h
  · obtain ⟨g', h1, h2⟩ := freezeV_ok deep _ _ _ _ _ _ h hw hr
    exact ⟨g', h1, h2.rel⟩

theorem T.get_cons (t : T) (n : Nat) (v : AV) (m : Nat) : T.get ((n, v) :: t) m = if m = n then v else t.get m := by
  simp only [T.get]
  by_cases h : m = n
  · subst h; simp
  · have : Nat.beq n m = false := by rw [← Bool.not_eq_true, Nat.beq_eq]; omega
    simp [this, h]

theorem freezeT_ok {w : World} {tmps : Array Value} : ∀ {ns : List Nat} {t t' : T} {h h' : H} {g : G}, freezeT ns t h = some (t', h') → WOk g h.objs.get w → TOk g t.get tmps →
    ∃ g', Fz g h.objs w h.ro g' h'.objs ∧ TOk g' t'.get tmps ∧ h'.cnt = h.cnt ∧ h'.ro = h.ro
  | [], t, t', h, h', g, hf, hw, ht => by
    simp only [freezeT, Option.some.injEq, Prod.mk.injEq] at hf
    obtain ⟨rfl, rfl⟩ := hf
    exact ⟨g, Fz.refl hw, ht, rfl, rfl⟩
  | n :: ns, t, t', h, h', g, hf, hw, ht => by
    simp only [freezeT] at hf
    split at hf
    · rename_i d os hfz
      obtain ⟨g1, hz, hd⟩ := freezeP_ok hfz hw (ht n)
      have ht1 : TOk g1 (T.get ((n, d) :: t)) tmps := by
        intro m
        rw [T.get_cons]
        split
        · rename_i hm; subst hm; exact hd
        · exact hz.full.R (ht m)
      obtain ⟨g2, hz2, ht2, h1, h2⟩ := freezeT_ok hf hz.wok ht1
      exact ⟨g2, hz.trans hz2, ht2, h1, h2⟩
    · cases hf

theorem Fz.fresh {os os' : Objs} {w : World} {ro : Nat} (h : Fz g os w ro g' os') {A : Nat → Prop} (hf : Fresh g A) : Fresh g' A := fun k ver hk => by rw [h.inj]; exact hf k ver hk

/-! ## Dropping -/

theorem scrub_get (t : T) : ∀ (l : List Nat) (n : Nat), (t.scrub l).get n = if n ∈ l then t.get n else .bot
  | [], n => by simp [T.scrub, T.get]
  | m :: l, n => by
    rw [T.scrub, T.get_cons, scrub_get t l n]
    by_cases h : n = m
    · subst h; simp
    · simp [h]

theorem TOk.scrub {t : T} {tmps : Array Value} (h : TOk g t.get tmps) (l : List Nat) : TOk g (t.scrub l).get tmps := by
  intro n
  rw [scrub_get]
  split
  · exact h n
  · trivial

/-- no key twice -/
def Nd (os : Objs) : Prop := (os.map (·.1)).Nodup

theorem Objs.get_none : ∀ {os : Objs} {k : Nat}, os.get k = none ↔ k ∉ os.map (·.1)
  | [], k => by simp [Objs.get]
  | (k0, o) :: r, k => by
    simp only [Objs.get, List.map_cons, List.mem_cons, not_or]
    by_cases h : k0 = k
    · subst h; simp
    · have hb : Nat.beq k0 k = false := by rw [← Bool.not_eq_true, Nat.beq_eq]; exact h
      simp only [hb, Bool.false_eq_true, if_false, Objs.get_none (os := r)]
      exact ⟨fun x => ⟨fun e => h e.symm, x⟩, fun x => x.2⟩

theorem Nd.cons {os : Objs} (h : Nd os) {k : Nat} (hk : os.get k = none) (o : Obj) : Nd ((k, o) :: os) := by
  unfold Nd at h ⊢
  simp only [List.map_cons, List.nodup_cons]
  exact ⟨Objs.get_none.1 hk, h⟩

theorem Objs.set_keys : ∀ (os : Objs) (k : Nat) (o : Obj), (os.set k o).map (·.1) = os.map (·.1)
  | [], _, _ => rfl
  | (k0, x) :: r, k, o => by
    simp only [Objs.set]
    split
    · rfl
    · simp [Objs.set_keys r k o]

theorem Nd.set {os : Objs} (h : Nd os) (k : Nat) (o : Obj) : Nd (os.set k o) := by
  unfold Nd; rw [Objs.set_keys]; exact h

theorem Objs.del_sub : ∀ (os : Objs) (k : Nat), List.Sublist (os.del k) os
  | [], _ => List.Sublist.refl _
  | (k0, x) :: r, k => by
    simp only [Objs.del]
    split
    · exact (Objs.del_sub r k).cons _
    · exact (Objs.del_sub r k).cons_cons _

theorem Objs.view_sub (c : Nat) : ∀ os : Objs, List.Sublist (os.view c) os
  | [] => List.Sublist.refl _
  | (k0, x) :: r => by
    simp only [Objs.view]
    split
    · exact (Objs.view_sub c r).cons_cons _
    · exact (Objs.view_sub c r).cons _

theorem Objs.drop_sub (c : Nat) : ∀ os : Objs, List.Sublist (os.drop c) os
  | [] => List.Sublist.refl _
  | (k0, .arr ver true cs) :: r => by
    simp only [Objs.drop]
    split
    · exact (Objs.drop_sub c r).cons_cons _
    · exact (Objs.drop_sub c r).cons _
  | (k0, .arr ver false cs) :: r => by
    simp only [Objs.drop]
    exact (Objs.drop_sub c r).cons_cons _
  | (k0, .map ks vs) :: r => by
    simp only [Objs.drop]
    exact (Objs.drop_sub c r).cons_cons _

theorem Nd.sublist {os os' : Objs} (h : Nd os) (hs : List.Sublist os' os) : Nd os' := List.Nodup.sublist (hs.map _) h

theorem Objs.get_mem : ∀ {os : Objs} {k : Nat} {o : Obj}, os.get k = some o → (k, o) ∈ os
  | [], k, o, h => by simp [Objs.get] at h
  | (k0, x) :: r, k, o, h => by
    simp only [Objs.get] at h
    split at h
    · rename_i hk; rw [Nat.beq_eq] at hk; subst hk
      simp only [Option.some.injEq] at h; subst h; simp
    · exact List.mem_cons_of_mem _ (Objs.get_mem h)

theorem Nd.get {os : Objs} (h : Nd os) {k : Nat} {o : Obj} (hm : (k, o) ∈ os) : os.get k = some o := by
  induction os with
  | nil => cases hm
  | cons a r ih =>
    obtain ⟨k0, x⟩ := a
    unfold Nd at h
    simp only [List.map_cons, List.nodup_cons] at h
    simp only [Objs.get]
    rcases List.mem_cons.1 hm with he | he
    · simp only [Prod.mk.injEq] at he
      obtain ⟨rfl, rfl⟩ := he
      simp
    · have hne : k0 ≠ k := by
        rintro rfl
        exact h.1 (List.mem_map.2 ⟨(k0, o), he, rfl⟩)
      have hb : Nat.beq k0 k = false := by rw [← Bool.not_eq_true, Nat.beq_eq]; exact hne
      simp only [hb, Bool.false_eq_true, if_false]
      exact ih h.2 he

theorem Nd.sub {os os' : Objs} (h : Nd os) (hs : List.Sublist os' os) : Sub os'.get os.get := fun _ _ hg => h.get (hs.subset (Objs.get_mem hg))

theorem Objs.view_mem (c : Nat) : ∀ {os : Objs} {k : Nat} {o : Obj}, (k, o) ∈ os → k < c → (k, o) ∈ os.view c
  | [], _, _, h, _ => by cases h
  | (k0, x) :: r, k, o, h, hk => by
    simp only [Objs.view]
    rcases List.mem_cons.1 h with he | he
    · simp only [Prod.mk.injEq] at he
      obtain ⟨rfl, rfl⟩ := he
      have : Nat.blt k c = true := by rw [Nat.blt_eq]; exact hk
      simp [this]
    · split
      · exact List.mem_cons_of_mem _ (Objs.view_mem c he hk)
      · exact Objs.view_mem c he hk

theorem Objs.view_lt (c : Nat) : ∀ {os : Objs} {k : Nat} {o : Obj}, (k, o) ∈ os.view c → k < c
  | [], _, _, h => by cases h
  | (k0, x) :: r, k, o, h => by
    simp only [Objs.view] at h
    split at h
    · rename_i hb
      rcases List.mem_cons.1 h with he | he
      · simp only [Prod.mk.injEq] at he
        obtain ⟨rfl, rfl⟩ := he
        rwa [Nat.blt_eq] at hb
      · exact Objs.view_lt c he
    · exact Objs.view_lt c h

/-- what is seen below c -/
def viewM (m : Mem) (c : Nat) : Mem := fun k => if k < c then m k else none

theorem Nd.view {os : Objs} (h : Nd os) (c : Nat) : (os.view c).get = viewM os.get c := by
  funext k
  simp only [viewM]
  cases hv : (os.view c).get k with
  | some o =>
    have hm := Objs.get_mem hv
    rw [if_pos (Objs.view_lt c hm), h.get ((Objs.view_sub c os).subset hm)]
  | none =>
    split
    · rename_i hk
      cases hg : os.get k with
      | none => rfl
      | some o =>
        have := Objs.get_none.1 hv
        exact absurd (List.mem_map.2 ⟨(k, o), Objs.view_mem c (Objs.get_mem hg) hk, rfl⟩) this
    · rfl

theorem Objs.drop_low (c : Nat) : ∀ {os : Objs} {k : Nat} {o : Obj}, (k, o) ∈ os → k < c → (k, o) ∈ os.drop c
  | [], _, _, h, _ => by cases h
  | (k0, .arr ver true cs) :: r, k, o, h, hk => by
    simp only [Objs.drop]
    rcases List.mem_cons.1 h with he | he
    · simp only [Prod.mk.injEq] at he
      obtain ⟨rfl, rfl⟩ := he
      have : Nat.blt k c = true := by rw [Nat.blt_eq]; exact hk
      simp [this]
    · split
      · exact List.mem_cons_of_mem _ (Objs.drop_low c he hk)
      · exact Objs.drop_low c he hk
  | (k0, .arr ver false cs) :: r, k, o, h, hk => by
    simp only [Objs.drop]
    rcases List.mem_cons.1 h with he | he
    · rw [he]; simp
    · exact List.mem_cons_of_mem _ (Objs.drop_low c he hk)
  | (k0, .map ks vs) :: r, k, o, h, hk => by
    simp only [Objs.drop]
    rcases List.mem_cons.1 h with he | he
    · rw [he]; simp
    · exact List.mem_cons_of_mem _ (Objs.drop_low c he hk)

theorem Nd.drop_get {os : Objs} (h : Nd os) {c k : Nat} (hk : k < c) : (os.drop c).get k = os.get k := by
  cases hg : os.get k with
  | some o => exact (h.sublist (Objs.drop_sub c os)).get (Objs.drop_low c (Objs.get_mem hg) hk)
  | none =>
    cases hd : (os.drop c).get k with
    | none => rfl
    | some o => rw [h.sub (Objs.drop_sub c os) k o hd] at hg; cases hg

end Go.Va
/-! What is dropped at the end of a block. -/
namespace Go.Va

variable {P : Program} {g g' : G}

/-- only the places of keys below c -/
def G.cut (g : G) (c : Nat) : G := { g with inj := fun k v => if k < c then g.inj k v else none }

theorem Ext.cut (g : G) (c : Nat) : Ext c g (g.cut c) := ⟨fun _ _ _ h => h, fun _ _ h => h, fun k v p hk h => by simp only [G.cut, hk, if_true]; exact h⟩

theorem cut_inj {g : G} {c k ver : Nat} {p : Pl} (h : (g.cut c).inj k ver = some p) : k < c ∧ g.inj k ver = some p := by
  simp only [G.cut] at h
  split at h
  · rename_i hk; exact ⟨hk, h⟩
  · cases h

theorem R_data_same {g g' : G} (hs : SameImm g g') {a : AV} {v : Value} (hd : a.isData) (h : R g a v) : R g' a v := R_data hs hd h

theorem datas_mem : ∀ {cs : List AV}, AV.datas cs = some cs → ∀ c ∈ cs, AV.data c = some c
  | cs, h, c, hc => by
    obtain ⟨i, hi⟩ := List.mem_iff_getElem?.1 hc
    obtain ⟨c', h1, h2⟩ := datas_get h i c hi
    rw [hi] at h1
    simp only [Option.some.injEq] at h1; subst h1; exact h2

theorem Entries.data {es : Array MapEntry} {ks vs : List AV} (h : Entries g es ks vs) (hs : SameImm g g') (hd : AV.datas ks = some ks ∧ AV.datas vs = some vs) : Entries g' es ks vs := by
  refine ⟨h.1, h.2.1, fun i e he => ?_⟩
  obtain ⟨h1, ⟨k, kn, kc, h2, h3, h4⟩, v, h5, h6, h7⟩ := h.2.2 i e he
  exact ⟨h1, ⟨k, kn, kc, h2, R_data hs (datas_mem hd.1 k (List.mem_of_getElem? h2)) h3, h4⟩, v, h5, R_data hs (datas_mem hd.2 v (List.mem_of_getElem? h5)) h6, h7⟩

theorem unders_mem {c : Nat} : ∀ {cs : List AV}, AV.unders c cs = true → ∀ x ∈ cs, AV.under c x = true
  | [], _, x, hx => by cases hx
  | a :: cs, h, x, hx => by
    simp only [AV.unders, Bool.and_eq_true] at h
    rcases List.mem_cons.1 hx with rfl | hx
    · exact h.1
    · exact unders_mem h.2 x hx

def Obj.unders (c : Nat) : Obj → Prop
  | .arr _ _ cs => AV.unders c cs = true
  | .map ks vs => AV.unders c ks = true ∧ AV.unders c vs = true

theorem ObjOk.ext {w : World} {c k : Nat} {o : Obj} (h : ObjOk g w k o) (he : Ext c g g') (hk : k < c) (hu : o.unders c) : ObjOk g' w k o := by
  cases o with
  | arr ver var cs =>
    rcases h with ⟨h1, h2⟩ | ⟨b, s, h1, C, el, h2, h3, h4, h5⟩
    · exact .inl ⟨he.inj _ _ _ hk h1, h2⟩
    · refine .inr ⟨b, s, he.inj _ _ _ hk h1, C, el, h2, h3, h4, fun j c hc => ?_⟩
      obtain ⟨v, a, b, d⟩ := h5 j c hc
      exact ⟨v, a, R_mono he (unders_mem hu c (List.mem_of_getElem? hc)) b, d⟩
  | map ks vs =>
    obtain ⟨b, s, es, h1, h2, h3⟩ := h
    refine ⟨b, s, es, he.inj _ _ _ hk h1, h2, h3.1, h3.2.1, fun i e hh => ?_⟩
    obtain ⟨x1, ⟨k, kn, kc, x2, x3, x4⟩, v, x5, x6, x7⟩ := h3.2.2 i e hh
    exact ⟨x1, ⟨k, kn, kc, x2, R_mono he (unders_mem hu.1 k (List.mem_of_getElem? x2)) x3, x4⟩, v, x5, R_mono he (unders_mem hu.2 v (List.mem_of_getElem? x5)) x6, x7⟩

theorem Objs.belows_spec {c : Nat} : ∀ {os : Objs}, Objs.belows c os = true → ∀ k o, (k, o) ∈ os → k < c ∧ o.unders c
  | [], _, _, _, h => by cases h
  | (k0, .arr v b cs) :: r, h, k, o, hm => by
    simp only [Objs.belows, Bool.and_eq_true, Nat.blt_eq] at h
    rcases List.mem_cons.1 hm with he | he
    · simp only [Prod.mk.injEq] at he
      obtain ⟨rfl, rfl⟩ := he
      exact ⟨h.1.1, h.1.2⟩
    · exact Objs.belows_spec h.2 k o he
  | (k0, .map ks vs) :: r, h, k, o, hm => by
    simp only [Objs.belows, Bool.and_eq_true, Nat.blt_eq] at h
    rcases List.mem_cons.1 hm with he | he
    · simp only [Prod.mk.injEq] at he
      obtain ⟨rfl, rfl⟩ := he
      exact ⟨h.1.1.1, h.1.1.2, h.1.2⟩
    · exact Objs.belows_spec h.2 k o he

theorem WOk.cut {m : Mem} {w : World} {c : Nat} (hw : WOk g m w) (hb : ∀ k o, m k = some o → k < c ∧ o.unders c) : WOk (g.cut c) m w := by
  have he := Ext.cut g c
  have howns : ∀ k b, Owns (g.cut c) m k b → Owns g m k b := by
    rintro k b ⟨o, s, h1, h2⟩
    exact ⟨o, s, h1, (cut_inj h2).2⟩
  refine ⟨fun b o a ha => ?_, fun b ks vs ha => ?_, fun k o hm => (hw.objs k o hm).ext he (hb k o hm).1 (hb k o hm).2, fun k k' b h1 h2 => hw.sep k k' b (howns _ _ h1) (howns _ _ h2), fun k b h => hw.own k b (howns k b h), fun k o hm v hv => ?_⟩
  · obtain ⟨v, h1, h2, h3, h4⟩ := hw.immc b o a ha
    exact ⟨v, h1, R_data he.same h4 h2, h3, h4⟩
  · obtain ⟨h0, h1, es, h2, h3⟩ := hw.immm b ks vs ha
    exact ⟨h0, h1, es, h2, h3.data he.same h1⟩
  · simp only [G.cut]
    rw [if_pos (hb k o hm).1]
    exact hw.vers k o hm v hv

theorem T.belows_spec {c : Nat} : ∀ {t : T}, t.belows c = true → ∀ n, AV.under c (t.get n) = true
  | [], _, _ => rfl
  | (k, v) :: r, h, n => by
    simp only [T.belows, Bool.and_eq_true] at h
    rw [T.get_cons]
    split
    · exact h.1
    · exact T.belows_spec h.2 n

/-- the state of a frame -/
structure Inv (g : G) (t : T) (h : H) (tmps : Array Value) (w : World) : Prop where
  tok : TOk g t.get tmps
  wok : WOk g h.objs.get w
  nd : Nd h.objs
  fresh : Fresh g (· < h.cnt)
  ro : h.ro ≤ h.cnt

/-- what a piece of code leaves of memory -/
structure Left (g : G) (h : H) (w : World) (g' : G) (h' : H) (w' : World) : Prop where
  tr : Tr h.cnt (fun _ => False) g h.objs.get w g' h'.objs.get w'
  cnt : h.cnt ≤ h'.cnt
  ro : h'.ro = h.ro
  low : ∀ k, k < h.ro → h'.objs.get k = h.objs.get k

theorem Left.refl (g : G) (h : H) (w : World) : Left g h w g h w := ⟨Tr.refl _ _ _ _ _, Nat.le_refl _, rfl, fun _ _ => rfl⟩

theorem Left.trans {g g' g'' : G} {h h' h'' : H} {w w' w'' : World} (x : Left g h w g' h' w') (y : Left g' h' w' g'' h'' w'') : Left g h w g'' h'' w'' :=
  ⟨(x.tr.trans y.tr x.cnt).weaken (Nat.le_refl _) (fun _ _ hk => hk.elim id id), Nat.le_trans x.cnt y.cnt, y.ro.trans x.ro, fun k hk => (y.low k (by rw [x.ro]; exact hk)).trans (x.low k hk)⟩

theorem trim_ok {t : T} {h h0 : H} {tmps : Array Value} {w w0 : World} {g0 : G} (hi : Inv g t h tmps w) (hl : Left g0 h0 w0 g h w) (hro : h0.ro ≤ h0.cnt) :
    ∃ g', Inv g' t (trim h0.cnt t h) tmps w ∧ Left g0 h0 w0 g' (trim h0.cnt t h) w := by
  have hsub : Sub (h.objs.view h0.cnt).get h.objs.get := hi.nd.sub (Objs.view_sub _ _)
  have hlow : ∀ k, k < h0.cnt → (h.objs.view h0.cnt).get k = h.objs.get k := fun k hk => by rw [hi.nd.view]; simp only [viewM, hk, if_true]
  unfold trim
  simp only
  split
  · rename_i hc
    simp only [Bool.and_eq_true] at hc
    have hbs := Objs.belows_spec hc.1
    have hws := (hi.wok.sub hsub).cut (c := h0.cnt) (fun k o hm => hbs k o (Objs.get_mem hm))
    have he := Ext.cut g h0.cnt
    refine ⟨g.cut h0.cnt, ⟨fun n => R_mono he (T.belows_spec hc.2 n) (hi.tok n), hws, hi.nd.sublist (Objs.view_sub _ _), fun k ver hk => ?_, by show h.ro ≤ h0.cnt; rw [hl.ro]; exact hro⟩, ⟨?_, Nat.le_refl _, hl.ro, fun k hk => ?_⟩⟩
    · simp only [G.cut]; rw [if_neg hk]
    · have hne := hl.tr
      refine ⟨⟨hne.ext.imm, hne.ext.immM, fun k v p hk hp => ?_⟩, fun k hk hN hno => ?_, hne.size, hne.keep, fun k b ho => ?_, hne.os, hne.output, hne.tape, hne.frz⟩
      · simp only [G.cut, hk, if_true]; exact hne.ext.inj k v p hk hp
      · have hu := hne.unal k hk hN hno
        refine ⟨?_, fun ver => ?_⟩
        · show (h.objs.view h0.cnt).get k = none
          rw [hlow k hk]; exact hu.1
        · simp only [G.cut, hk, if_true]; exact hu.2 ver
      · refine hne.foot k b ?_
        obtain ⟨o, s, h1, h2⟩ := ho
        exact ⟨o, s, hsub _ _ h1, (cut_inj h2).2⟩
    · show (h.objs.view h0.cnt).get k = _
      rw [hlow k (by omega)]
      exact hl.low k hk
  · exact ⟨g, hi, hl⟩

/-- code in a block: what is left of its variables is dropped -/
theorem Inv.scrub {t : T} {h : H} {tmps : Array Value} {w : World} (hi : Inv g t h tmps w) (l : List Nat) : Inv g (t.scrub l) h tmps w := ⟨hi.tok.scrub l, hi.wok, hi.nd, hi.fresh, hi.ro⟩

end Go.Va
