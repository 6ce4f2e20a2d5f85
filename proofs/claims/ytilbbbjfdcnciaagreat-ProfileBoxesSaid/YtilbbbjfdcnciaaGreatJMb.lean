/-
  Texts joined by program: The abstract machine against the model: what an abstract value says of the model's value (R), what abstract memory says of a world (WOk). When abstract code stands for the model's code: a check that the kernel can evaluate. The abstract machine against the model: operands, parts, and the operations that touch no memory. The operations that touch no memory: what the model's operation answers reads as the abstract answer. The operations that touch no memory, one by one, and all of them.
-/
import Derived.Test.YtilbbbjfdcnciaaGreatJMa
import Derived.DeepKeys3
import Derived.Laws.CopyRow
import Derived.Laws.Cells
import Derived.Orders
import Derived.Below
import Derived.CheckFast
/-! The abstract machine against the model: what an abstract value says of the model's value (R), what abstract memory says of a world (WOk). -/
namespace Go.Va

/-- where an object's row lies: nowhere (a nil slice), or a block of so many cells -/
inductive Pl where
  | nil
  | at (b size : Nat)

structure G where
  imm : Nat → Nat → Option AV
  immM : Nat → Option (List AV × List AV)
  inj : Nat → Nat → Option Pl

def ImmRow (g : G) (b o : Nat) (cs : List AV) : Prop := ∀ (j : Nat) (c : AV), cs[j]? = some c → g.imm b (o + j) = some c

def ImmElems (g : G) (b o w : Nat) (xs : List AV) : Prop := ∀ (i : Nat) (x : AV), xs[i]? = some x → x.cells.length = w ∧ ImmRow g b (o + i * w) x.cells

mutual
def R (g : G) : AV → Value → Prop
  | .bot, _ => True
  | .bool b, v => v = .bool b
  | .int k n, v => v = .int k n
  | .str s, v => v = .string s
  | .agg cs, v => ∃ vs : List Value, v = .agg vs.toArray ∧ RL g cs vs
  | .tup cs, v => ∃ vs : List Value, v = .tuple vs.toArray ∧ RL g cs vs
  | .func f a b, v => ∃ x y : List Value, v = .func (.func f) x.toArray y.toArray ∧ RL g a x ∧ RL g b y
  | .nilF, v => v = .nilFunc
  | .nilP, v => v = .pointer none
  | .nilM, v => v = .map none
  | .ptr k ver off, v => ∃ b size, g.inj k ver = some (.at b size) ∧ v = .pointer (some ⟨b, off, none⟩)
  | .tptr x, v => ∃ b o, v = .pointer (some ⟨b, o, none⟩) ∧ ImmRow g b o x.cells
  | .slT lim xs, v => ∃ a c, v = .slice a xs.length c ∧ xs.length ≤ c ∧ (lim = true → c = xs.length) ∧ (xs ≠ [] → ∃ b o w, a = some ⟨b, o, none⟩ ∧ ImmElems g b o w xs)
  | .slR k ver off len w _, v => (g.inj k ver = some .nil ∧ off = 0 ∧ len = 0 ∧ v = .slice none 0 0) ∨
      ∃ b size c, g.inj k ver = some (.at b size) ∧ v = .slice (some ⟨b, off, none⟩) len c ∧ len ≤ c ∧ off + c * w ≤ size
  | .mapR k, v => ∃ b s, g.inj k 0 = some (.at b s) ∧ v = .map (some b)
  | .mapT ks vs, v => ∃ b, v = .map (some b) ∧ g.immM b = some (ks, vs)
def RL (g : G) : List AV → List Value → Prop
  | [], vs => vs = []
  | c :: cs, vs => ∃ v r, vs = v :: r ∧ R g c v ∧ RL g cs r
end

theorem RL_len {g : G} : ∀ {cs : List AV} {vs : List Value}, RL g cs vs → cs.length = vs.length
  | [], vs, h => by simp [RL] at h; simp [h]
  | c :: cs, vs, h => by
    simp only [RL] at h
    obtain ⟨v, r, rfl, _, h2⟩ := h
    simp [RL_len h2]

theorem RL_get {g : G} : ∀ {cs : List AV} {vs : List Value}, RL g cs vs → ∀ (j : Nat) (c : AV), cs[j]? = some c → ∃ v, vs[j]? = some v ∧ R g c v
  | [], _, _, j, c, hj => by simp at hj
  | c0 :: cs, vs, h, j, c, hj => by
    simp only [RL] at h
    obtain ⟨v, r, rfl, h1, h2⟩ := h
    cases j with
    | zero => simp at hj; subst hj; exact ⟨v, rfl, h1⟩
    | succ j => simpa using RL_get h2 j c (by simpa using hj)

theorem RL_mk {g : G} : ∀ {cs : List AV} {vs : List Value}, cs.length = vs.length → (∀ (j : Nat) c v, cs[j]? = some c → vs[j]? = some v → R g c v) → RL g cs vs
  | [], [], _, _ => by simp [RL]
  | [], _ :: _, h, _ => by simp at h
  | _ :: _, [], h, _ => by simp at h
  | c :: cs, v :: vs, h, hr => by
    simp only [RL]
    exact ⟨v, vs, rfl, hr 0 c v rfl rfl, RL_mk (by simpa using h) (fun j c v hc hv => hr (j + 1) c v (by simpa using hc) (by simpa using hv))⟩

/-- what holds of later ghosts: what does not change stays, places of keys below c stay -/
structure Ext (c : Nat) (g g' : G) : Prop where
  imm : ∀ b o a, g.imm b o = some a → g'.imm b o = some a
  immM : ∀ b x, g.immM b = some x → g'.immM b = some x
  inj : ∀ k ver p, k < c → g.inj k ver = some p → g'.inj k ver = some p

theorem Ext.refl (c : Nat) (g : G) : Ext c g g := ⟨fun _ _ _ h => h, fun _ _ h => h, fun _ _ _ _ h => h⟩

theorem Ext.trans {c c' : Nat} {g g' g'' : G} (h : Ext c g g') (h' : Ext c' g' g'') (hc : c ≤ c') : Ext c g g'' :=
  ⟨fun b o a x => h'.imm b o a (h.imm b o a x), fun b y x => h'.immM b y (h.immM b y x), fun k v p hk x => h'.inj k v p (by omega) (h.inj k v p hk x)⟩

theorem ImmRow.mono {c : Nat} {g g' : G} (h : Ext c g g') {b o : Nat} {cs : List AV} (hr : ImmRow g b o cs) : ImmRow g' b o cs :=
  fun j x hx => h.imm _ _ _ (hr j x hx)

mutual
theorem R_mono {c : Nat} {g g' : G} (h : Ext c g g') : ∀ {a : AV} {v : Value}, AV.under c a = true → R g a v → R g' a v
  | .bot, _, _, _ => trivial
  | .bool _, _, _, hr => by simpa [R] using hr
  | .int _ _, _, _, hr => by simpa [R] using hr
  | .str _, _, _, hr => by simpa [R] using hr
  | .agg cs, v, hu, hr => by
    simp only [R, AV.under] at hr hu ⊢
    obtain ⟨vs, hv, hl⟩ := hr
    exact ⟨vs, hv, RL_mono h hu hl⟩
  | .tup cs, v, hu, hr => by
    simp only [R, AV.under] at hr hu ⊢
    obtain ⟨vs, hv, hl⟩ := hr
    exact ⟨vs, hv, RL_mono h hu hl⟩
  | .func f a b, v, hu, hr => by
    simp only [R, AV.under, Bool.and_eq_true] at hr hu ⊢
    obtain ⟨x, y, hv, h1, h2⟩ := hr
    exact ⟨x, y, hv, RL_mono h hu.1 h1, RL_mono h hu.2 h2⟩
  | .nilF, _, _, hr => by simpa [R] using hr
  | .nilP, _, _, hr => by simpa [R] using hr
  | .nilM, _, _, hr => by simpa [R] using hr
  | .ptr k ver off, v, hu, hr => by
    simp only [R, AV.under] at hr hu ⊢
    obtain ⟨b, s, hi, hv⟩ := hr
    exact ⟨b, s, h.inj _ _ _ (by simpa [Nat.blt_eq] using hu) hi, hv⟩
  | .tptr x, v, _, hr => by
    simp only [R] at hr ⊢
    obtain ⟨b, o, hv, hi⟩ := hr
    exact ⟨b, o, hv, hi.mono h⟩
  | .slT lim xs, v, _, hr => by
    simp only [R] at hr ⊢
    obtain ⟨a, c', hv, h1, h2, h3⟩ := hr
    refine ⟨a, c', hv, h1, h2, fun hx => ?_⟩
    obtain ⟨b, o, w, ha, hi⟩ := h3 hx
    exact ⟨b, o, w, ha, fun i x hx => ⟨(hi i x hx).1, (hi i x hx).2.mono h⟩⟩
  | .slR k ver off len w ag, v, hu, hr => by
    simp only [R, AV.under] at hr hu ⊢
    have hk : k < c := by simpa [Nat.blt_eq] using hu
    rcases hr with ⟨hi, h1⟩ | ⟨b, s, c', hi, h1⟩
    · exact .inl ⟨h.inj _ _ _ hk hi, h1⟩
    · exact .inr ⟨b, s, c', h.inj _ _ _ hk hi, h1⟩
  | .mapR k, v, hu, hr => by
    simp only [R, AV.under] at hr hu ⊢
    obtain ⟨b, s, hi, hv⟩ := hr
    exact ⟨b, s, h.inj _ _ _ (by simpa [Nat.blt_eq] using hu) hi, hv⟩
  | .mapT ks vs, v, _, hr => by
    simp only [R] at hr ⊢
    obtain ⟨b, hv, hi⟩ := hr
    exact ⟨b, hv, h.immM _ _ hi⟩
theorem RL_mono {c : Nat} {g g' : G} (h : Ext c g g') : ∀ {cs : List AV} {vs : List Value}, AV.unders c cs = true → RL g cs vs → RL g' cs vs
  | [], vs, _, hr => by simpa [RL] using hr
  | a :: cs, vs, hu, hr => by
    simp only [RL, AV.unders, Bool.and_eq_true] at hr hu ⊢
    obtain ⟨v, r, hv, h1, h2⟩ := hr
    exact ⟨v, r, hv, R_mono h hu.1 h1, RL_mono h hu.2 h2⟩
end

/-- keys that have no place yet -/
def Fresh (g : G) (A : Nat → Prop) : Prop := ∀ k ver, ¬ A k → g.inj k ver = none

mutual
theorem R_under {g : G} {c : Nat} (hf : Fresh g (· < c)) : ∀ {a : AV} {v : Value}, R g a v → AV.under c a = true
  | .bot, _, _ | .bool _, _, _ | .int _ _, _, _ | .str _, _, _ | .nilF, _, _ | .nilP, _, _ | .nilM, _, _ | .tptr _, _, _ | .slT _ _, _, _ | .mapT _ _, _, _ => rfl
  | .agg cs, v, hr => by
    simp only [R, AV.under] at hr ⊢
    obtain ⟨vs, _, hl⟩ := hr
    exact RL_under hf hl
  | .tup cs, v, hr => by
    simp only [R, AV.under] at hr ⊢
    obtain ⟨vs, _, hl⟩ := hr
    exact RL_under hf hl
  | .func f a b, v, hr => by
    simp only [R, AV.under, Bool.and_eq_true] at hr ⊢
    obtain ⟨x, y, _, h1, h2⟩ := hr
    exact ⟨RL_under hf h1, RL_under hf h2⟩
  | .ptr k ver off, v, hr => by
    simp only [R, AV.under] at hr ⊢
    obtain ⟨b, s, hi, _⟩ := hr
    rw [Nat.blt_eq]
    exact Decidable.byContradiction fun h => by rw [hf k ver h] at hi; cases hi
  | .slR k ver off len w ag, v, hr => by
    simp only [R, AV.under] at hr ⊢
    rw [Nat.blt_eq]
    refine Decidable.byContradiction fun h => ?_
    rcases hr with ⟨hi, _⟩ | ⟨b, s, c', hi, _⟩ <;> (rw [hf k ver h] at hi; cases hi)
  | .mapR k, v, hr => by
    simp only [R, AV.under] at hr ⊢
    obtain ⟨b, s, hi, _⟩ := hr
    rw [Nat.blt_eq]
    exact Decidable.byContradiction fun h => by rw [hf k 0 h] at hi; cases hi
theorem RL_under {g : G} {c : Nat} (hf : Fresh g (· < c)) : ∀ {cs : List AV} {vs : List Value}, RL g cs vs → AV.unders c cs = true
  | [], _, _ => rfl
  | a :: cs, vs, hr => by
    simp only [RL, AV.unders, Bool.and_eq_true] at hr ⊢
    obtain ⟨v, r, _, h1, h2⟩ := hr
    exact ⟨R_under hf h1, RL_under hf h2⟩
end

/-- ghosts alike in what does not change say the same of data -/
def SameImm (g g' : G) : Prop := (∀ b o a, g.imm b o = some a → g'.imm b o = some a) ∧ (∀ b x, g.immM b = some x → g'.immM b = some x)

theorem Ext.same {c : Nat} {g g' : G} (h : Ext c g g') : SameImm g g' := ⟨h.imm, h.immM⟩

mutual
theorem R_data {g g' : G} (h : SameImm g g') : ∀ {a d : AV} {v : Value}, AV.data a = some d → R g a v → R g' d v
  | .bot, d, v, hd, _ => by simp [AV.data] at hd
  | .ptr .., d, v, hd, _ => by simp [AV.data] at hd
  | .tptr _, d, v, hd, _ => by simp [AV.data] at hd
  | .slR .., d, v, hd, _ => by simp [AV.data] at hd
  | .mapR _, d, v, hd, _ => by simp [AV.data] at hd
  | .bool b, d, v, hd, hr => by simp only [AV.data, Option.some.injEq] at hd; subst hd; simpa [R] using hr
  | .int k n, d, v, hd, hr => by simp only [AV.data, Option.some.injEq] at hd; subst hd; simpa [R] using hr
  | .str s, d, v, hd, hr => by simp only [AV.data, Option.some.injEq] at hd; subst hd; simpa [R] using hr
  | .nilF, d, v, hd, hr => by simp only [AV.data, Option.some.injEq] at hd; subst hd; simpa [R] using hr
  | .nilP, d, v, hd, hr => by simp only [AV.data, Option.some.injEq] at hd; subst hd; simpa [R] using hr
  | .nilM, d, v, hd, hr => by simp only [AV.data, Option.some.injEq] at hd; subst hd; simpa [R] using hr
  | .agg cs, d, v, hd, hr => by
    simp only [AV.data] at hd
    split at hd
    · rename_i ds hds
      simp only [Option.some.injEq] at hd; subst hd
      simp only [R] at hr ⊢
      obtain ⟨vs, hv, hl⟩ := hr
      exact ⟨vs, hv, RL_data h hds hl⟩
    · cases hd
  | .tup cs, d, v, hd, hr => by
    simp only [AV.data] at hd
    split at hd
    · rename_i ds hds
      simp only [Option.some.injEq] at hd; subst hd
      simp only [R] at hr ⊢
      obtain ⟨vs, hv, hl⟩ := hr
      exact ⟨vs, hv, RL_data h hds hl⟩
    · cases hd
  | .func f a b, d, v, hd, hr => by
    simp only [AV.data] at hd
    split at hd
    · rename_i a' ha
      split at hd
      · rename_i b' hb
        simp only [Option.some.injEq] at hd; subst hd
        simp only [R] at hr ⊢
        obtain ⟨x, y, hv, h1, h2⟩ := hr
        exact ⟨x, y, hv, RL_data h ha h1, RL_data h hb h2⟩
      · cases hd
    · cases hd
  | .slT lim xs, d, v, hd, hr => by
    simp only [AV.data, Option.some.injEq] at hd; subst hd
    simp only [R] at hr ⊢
    obtain ⟨a, c', hv, h1, h2, h3⟩ := hr
    refine ⟨a, c', hv, h1, by simp, fun hx => ?_⟩
    obtain ⟨b, o, w, ha, hi⟩ := h3 hx
    exact ⟨b, o, w, ha, fun i x hx => ⟨(hi i x hx).1, fun j c hc => h.1 _ _ _ ((hi i x hx).2 j c hc)⟩⟩
  | .mapT ks vs, d, v, hd, hr => by
    simp only [AV.data, Option.some.injEq] at hd; subst hd
    simp only [R] at hr ⊢
    obtain ⟨b, hv, hi⟩ := hr
    exact ⟨b, hv, h.2 _ _ hi⟩
theorem RL_data {g g' : G} (h : SameImm g g') : ∀ {cs ds : List AV} {vs : List Value}, AV.datas cs = some ds → RL g cs vs → RL g' ds vs
  | [], ds, vs, hd, hr => by simp only [AV.datas, Option.some.injEq] at hd; subst hd; simpa [RL] using hr
  | a :: cs, ds, vs, hd, hr => by
    simp only [AV.datas] at hd
    split at hd
    · rename_i d hda
      split at hd
      · rename_i ds' hds
        simp only [Option.some.injEq] at hd; subst hd
        simp only [RL] at hr ⊢
        obtain ⟨v, r, hv, h1, h2⟩ := hr
        exact ⟨v, r, hv, R_data h hda h1, RL_data h hds h2⟩
      · cases hd
    · cases hd
end

/-- a value that is data as it stands -/
def AV.isData (a : AV) : Prop := a.data = some a

mutual
theorem data_data : ∀ {a d : AV}, AV.data a = some d → AV.data d = some d
  | .bot, d, hd | .ptr .., d, hd | .tptr _, d, hd | .slR .., d, hd | .mapR _, d, hd => by simp [AV.data] at hd
  | .bool _, d, hd | .int _ _, d, hd | .str _, d, hd | .nilF, d, hd | .nilP, d, hd | .nilM, d, hd | .slT _ _, d, hd | .mapT _ _, d, hd => by
    simp only [AV.data, Option.some.injEq] at hd; subst hd; rfl
  | .agg cs, d, hd => by
    simp only [AV.data] at hd
    split at hd
    · rename_i ds hds
      simp only [Option.some.injEq] at hd; subst hd
      simp [AV.data, datas_datas hds]
    · cases hd
  | .tup cs, d, hd => by
    simp only [AV.data] at hd
    split at hd
    · rename_i ds hds
      simp only [Option.some.injEq] at hd; subst hd
      simp [AV.data, datas_datas hds]
    · cases hd
  | .func f a b, d, hd => by
    simp only [AV.data] at hd
    split at hd
    · rename_i a' ha
      split at hd
      · rename_i b' hb
        simp only [Option.some.injEq] at hd; subst hd
        simp [AV.data, datas_datas ha, datas_datas hb]
      · cases hd
    · cases hd
theorem datas_datas : ∀ {cs ds : List AV}, AV.datas cs = some ds → AV.datas ds = some ds
  | [], ds, hd => by simp only [AV.datas, Option.some.injEq] at hd; subst hd; rfl
  | a :: cs, ds, hd => by
    simp only [AV.datas] at hd
    split at hd
    · rename_i d hda
      split at hd
      · rename_i ds' hds
        simp only [Option.some.injEq] at hd; subst hd
        simp [AV.datas, data_data hda, datas_datas hds]
      · cases hd
    · cases hd
end

theorem datas_get : ∀ {cs ds : List AV}, AV.datas cs = some ds → ∀ (j : Nat) (d : AV), ds[j]? = some d → ∃ c, cs[j]? = some c ∧ AV.data c = some d
  | [], ds, hd, j, d, hj => by simp only [AV.datas, Option.some.injEq] at hd; subst hd; simp at hj
  | a :: cs, ds, hd, j, d, hj => by
    simp only [AV.datas] at hd
    split at hd
    · rename_i d0 hda
      split at hd
      · rename_i ds' hds
        simp only [Option.some.injEq] at hd; subst hd
        cases j with
        | zero => simp at hj; subst hj; exact ⟨a, rfl, hda⟩
        | succ j => simpa using datas_get hds j d (by simpa using hj)
      · cases hd
    · cases hd

theorem datas_length : ∀ {cs ds : List AV}, AV.datas cs = some ds → cs.length = ds.length
  | [], ds, hd => by simp only [AV.datas, Option.some.injEq] at hd; subst hd; rfl
  | a :: cs, ds, hd => by
    simp only [AV.datas] at hd
    split at hd
    · split at hd
      · rename_i ds' hds
        simp only [Option.some.injEq] at hd; subst hd
        simp [datas_length hds]
      · cases hd
    · cases hd

/-! ## Objects and worlds -/

/-- the entries of a map's object in the model -/
def Entries (g : G) (es : Array MapEntry) (ks vs : List AV) : Prop :=
  ks.length = es.size ∧ vs.length = es.size ∧ ∀ (i : Nat) (e : MapEntry), es[i]? = some e → e.born = i ∧
    (∃ k kn kc, ks[i]? = some k ∧ R g k e.key ∧ keyOf kn k = some kc) ∧ ∃ v, vs[i]? = some v ∧ R g v e.val ∧ scalars v.cells = true

/-- the cells of a block -/
def RowAt (g : G) (w : World) (b size : Nat) (cs : List AV) : Prop :=
  ∃ (C : Array Value) (el : TypeId), w.heap[b]? = some (.cells C el (0, 0)) ∧ C.size = size ∧ cs.length ≤ size ∧
    ∀ (j : Nat) (c : AV), cs[j]? = some c → ∃ v, C[j]? = some v ∧ R g c v ∧ c.scalar = true

def ObjOk (g : G) (w : World) (k : Nat) : Obj → Prop
  | .arr ver _ cs => (g.inj k ver = some .nil ∧ cs = []) ∨ ∃ b size, g.inj k ver = some (.at b size) ∧ RowAt g w b size cs
  | .map ks vs => ∃ b s es, g.inj k 0 = some (.at b s) ∧ w.heap[b]? = some (.map es es.size) ∧ Entries g es ks vs

def Obj.ver : Obj → Nat
  | .arr ver _ _ => ver
  | .map _ _ => 0

/-- memory as a function of keys -/
abbrev Mem := Nat → Option Obj

/-- the blocks that an object of abstract memory owns -/
def Owns (g : G) (m : Mem) (k b : Nat) : Prop := ∃ o s, m k = some o ∧ g.inj k o.ver = some (.at b s)

structure WOk (g : G) (m : Mem) (w : World) : Prop where
  immc : ∀ b o a, g.imm b o = some a → ∃ v, w.cell? ⟨b, o, none⟩ = some v ∧ R g a v ∧ a.scalar = true ∧ a.isData
  immm : ∀ b ks vs, g.immM b = some (ks, vs) → (∀ o, g.imm b o = none) ∧ (AV.datas ks = some ks ∧ AV.datas vs = some vs) ∧ ∃ es, w.heap[b]? = some (.map es es.size) ∧ Entries g es ks vs
  objs : ∀ k o, m k = some o → ObjOk g w k o
  sep : ∀ k k' b, Owns g m k b → Owns g m k' b → k = k'
  own : ∀ k b, Owns g m k b → (∀ o, g.imm b o = none) ∧ g.immM b = none
  vers : ∀ k o, m k = some o → ∀ v, o.ver < v → g.inj k v = none

/-- The state of a frame: temporaries. -/
def TOk (g : G) (t : Nat → AV) (tmps : Array Value) : Prop := ∀ n, R g (t n) (tmps.getD n undef)

/-- How memory may change: what nobody owned stays. -/
structure Tr (c : Nat) (N : Nat → Prop) (g : G) (m : Mem) (w : World) (g' : G) (m' : Mem) (w' : World) : Prop where
  ext : Ext c g g'
  unal : ∀ k, k < c → ¬ N k → m k = none → m' k = none ∧ ∀ ver, g'.inj k ver = g.inj k ver
  size : w.heap.size ≤ w'.heap.size
  keep : ∀ b, b < w.heap.size → (∀ k, ¬ Owns g m k b) → w'.heap[b]? = w.heap[b]? ∧ (∀ o, g'.imm b o = g.imm b o) ∧ g'.immM b = g.immM b
  foot : ∀ k b, Owns g' m' k b → (∃ k', Owns g m k' b) ∨ w.heap.size ≤ b
  os : w'.os = w.os
  output : w'.output = w.output
  tape : w'.tape = w.tape
  frz : ∀ a, w'.frozen? a = w.frozen? a

theorem Tr.refl (c : Nat) (N : Nat → Prop) (g : G) (m : Mem) (w : World) : Tr c N g m w g m w :=
  ⟨Ext.refl c g, fun _ _ _ h => ⟨h, fun _ => rfl⟩, Nat.le_refl _, fun _ _ _ => ⟨rfl, fun _ => rfl, rfl⟩, fun k _ h => .inl ⟨k, h⟩, rfl, rfl, rfl, fun _ => rfl⟩

theorem Tr.trans {c c' : Nat} {N N' : Nat → Prop} {g g' g'' : G} {m m' m'' : Mem} {w w' w'' : World} (h : Tr c N g m w g' m' w') (h' : Tr c' N' g' m' w' g'' m'' w'')
    (hc : c ≤ c') : Tr c (fun k => N k ∨ N' k) g m w g'' m'' w'' where
  ext := h.ext.trans h'.ext hc
  unal := fun k hk hn hv => by
    have h1 := h.unal k hk (fun x => hn (.inl x)) hv
    have h2 := h'.unal k (by omega) (fun x => hn (.inr x)) h1.1
    exact ⟨h2.1, fun ver => (h2.2 ver).trans (h1.2 ver)⟩
  size := Nat.le_trans h.size h'.size
  keep := fun b hb hn => by
    have h1 := h.keep b hb hn
    have h2 := h'.keep b (Nat.lt_of_lt_of_le hb h.size) (fun k ho => by
      rcases h.foot k b ho with ⟨k', hk'⟩ | hge
      · exact hn k' hk'
      · omega)
    exact ⟨h2.1.trans h1.1, fun o => (h2.2.1 o).trans (h1.2.1 o), h2.2.2.trans h1.2.2⟩
  foot := fun k b ho => by
    rcases h'.foot k b ho with ⟨k', hk'⟩ | hge
    · exact h.foot k' b hk'
    · exact .inr (Nat.le_trans h.size hge)
  os := h'.os.trans h.os
  output := h'.output.trans h.output
  tape := h'.tape.trans h.tape
  frz := fun a => (h'.frz a).trans (h.frz a)

theorem Tr.weaken {c c' : Nat} {N N' : Nat → Prop} {g g' : G} {m m' : Mem} {w w' : World} (h : Tr c N g m w g' m' w') (hc : c' ≤ c) (hN : ∀ k, k < c' → N k → N' k) :
    Tr c' N' g m w g' m' w' where
  ext := ⟨h.ext.imm, h.ext.immM, fun k v p hk => h.ext.inj k v p (by omega)⟩
  unal := fun k hk hn => h.unal k (by omega) (fun x => hn (hN k hk x))
  size := h.size
  keep := h.keep
  foot := h.foot
  os := h.os
  output := h.output
  tape := h.tape
  frz := h.frz

theorem TOk.mono {c : Nat} {g g' : G} {t : Nat → AV} {tmps : Array Value} (h : TOk g t tmps) (hf : Fresh g (· < c)) (he : Ext c g g') : TOk g' t tmps :=
  fun n => R_mono he (R_under hf (h n)) (h n)

end Go.Va
/-! When abstract code stands for the model's code: a check that the kernel can evaluate. -/
namespace Go.Va

def isAggD : TypeDesc → Bool
  | .struct _ | .array _ _ => true
  | _ => false

def szIs (P : Program) (t : TypeId) (n : Nat) : Bool := match P.info? t with | some i => Nat.beq i.size n | none => false

def byIs (P : Program) (t : TypeId) (n : Nat) : Bool := match P.info? t with | some i => Nat.beq i.bytes n | none => false

/-- type t has the shape -/
def shOk (P : Program) (t : TypeId) (sh : Sh) : Bool :=
  match P.underlying t with
  | some d => szIs P t sh.size && Nat.blt 0 sh.size && (isAggD d == sh.ag)
  | none => false

def agCell : Value → AV → Bool
  | .bool b, .bool c => b == c
  | .int k n, .int k' n' => decide (k = k') && decide (n = n')
  | .string s, .str s' => decide (s = s')
  | .slice none 0 0, .slT true [] => true
  | .nilFunc, .nilF => true
  | .pointer none, .nilP => true
  | .map none, .nilM => true
  | _, _ => false

def agConsts : List Value → List AV → Bool
  | [], [] => true
  | v :: vs, a :: r => agCell v a && agConsts vs r
  | _, _ => false

def agConst (v : Value) (a : AV) : Bool :=
  match v, a with
  | .agg cs, .agg ds => agConsts cs.toList ds
  | v, a => agCell v a

def agOpd : Operand → Opd → Bool
  | .tmp n, .t m => Nat.beq n m
  | .const v, .c a => agConst v a
  | .func f, .f g => Nat.beq f g
  | _, _ => false

def agOpds : List Operand → List Opd → Bool
  | [], [] => true
  | x :: xs, y :: ys => agOpd x y && agOpds xs ys
  | _, _ => false

def agOpt : Option Operand → Option Opd → Bool
  | none, none => true
  | some x, some y => agOpd x y
  | _, _ => false

/-- the cells of a type's zero -/
def zeroOk (P : Program) (t : TypeId) (cs : List AV) : Bool :=
  match P.info? t with
  | some i => (match i.zero with | some z => agConsts z.cells.toList cs && scalars cs | none => false)
  | none => false

/-- a type's zero -/
def zeroOk1 (P : Program) (t : TypeId) (a : AV) : Bool :=
  match P.info? t with
  | some i => (match i.zero with | some z => agConst z a && scalars a.cells | none => false)
  | none => false

def flatFs (P : Program) (f : TypeId → Option Nat) : Nat → List Field → Option Nat
  | off, [] => some off
  | off, fd :: fs => match f fd.type with
    | some c => if Nat.beq fd.offset off && szIs P fd.type c && !(fd.name == "_") then flatFs P f (off + c) fs else none
    | none => none

/-- a type of integers alone: how many cells -/
def flatN (P : Program) : Nat → TypeId → Option Nat
  | 0, _ => none
  | m + 1, t => match P.underlying t with
    | some (.int _) => if szIs P t 1 then some 1 else none
    | some (.array n e) => match flatN P m e with
      | some c => if szIs P e c && szIs P t (n * c) then some (n * c) else none
      | none => none
    | some (.struct fs) => if P.stoodInHeld t then none else match flatFs P (flatN P m) 0 fs.toList with
      | some c => if szIs P t c then some c else none
      | none => none
    | _ => none

def maxFlat : Nat := 8

/-- an aggregate of n integers -/
def flatAgg (P : Program) (t : TypeId) (n : Nat) : Bool :=
  (match flatN P maxFlat t with | some m => Nat.beq m n | none => false) && (match P.underlying t with | some d => isAggD d | none => false)

def eqTyOk (P : Program) (t : TypeId) (et : Nat) : Bool :=
  match et with
  | 0 => true
  | 1 => (match P.underlying t with | some .bool => true | _ => false)
  | n + 2 => flatAgg P t n && !(P.eqGuardType P.depth t)

/-- the parts of a literal -/
def agParts (place : Nat → Option (Nat × Nat)) : List (Nat × Operand) → List (Nat × Nat × Opd) → Bool
  | [], [] => true
  | (i, x) :: r, (off, n, y) :: s => (match place i with | some (o, m) => Nat.beq o off && Nat.beq m n | none => false) && agOpd x y && agParts place r s
  | _, _ => false

def agElems : List (Nat × Operand) → List (Nat × Opd) → Bool
  | [], [] => true
  | (i, x) :: r, (j, y) :: s => Nat.beq i j && agOpd x y && agElems r s
  | _, _ => false

def fieldsPlace (P : Program) (fs : Array Field) (i : Nat) : Option (Nat × Nat) :=
  match fs[i]? with
  | some f => (match P.info? f.type with | some j => some (f.offset, j.size) | none => none)
  | none => none

def fieldsKnown (P : Program) (fs : Array Field) : Bool := fs.toList.all fun f => (P.info? f.type).isSome

def isInt (P : Program) (t : TypeId) : Option IntKind :=
  match P.underlying t with | some (.int k) => some k | _ => none

def sliceElem (P : Program) (t : TypeId) : Option TypeId :=
  match P.underlying t with | some (.slice e) => some e | _ => none

/-- a map's key type of n integers, an aggregate, and its elements' -/
def isMapOk (P : Program) (t : TypeId) (n : Nat) : Option (TypeId × TypeId) :=
  match P.underlying t with
  | some (.map k e) => if flatAgg P k n then some (k, e) else none
  | _ => none

def agOp (P : Program) (op : Op) (a : AOp) : Bool :=
  match a with
  | .stuck => true
  | .mov y => (match op with | .move x | .assign x => agOpd x y | _ => false)
  | .nilv _ => (match op with | .assign (.const (.slice none 0 0)) => true | _ => false)
  | .pick c x y => (match op with | .pick c' x' y' => agOpd c' c && agOpd x' x && agOpd y' y | _ => false)
  | .alloc cs => (match op with | .alloc t => zeroOk P t cs | _ => false)
  | .box y => (match op with | .box _ x => agOpd x y | _ => false)
  | .build zero ps => (match op with
    | .build t parts => zeroOk P t zero && (match P.underlying t with
      | some (.struct fs) => fieldsKnown P fs && agParts (fieldsPlace P fs) parts.toList ps
      | some (.array _ e) => (match P.info? e with | some i => agParts (fun j => some (j * i.size, i.size)) parts.toList ps | none => false)
      | _ => false)
    | _ => false)
  | .mkSl zero sh len ps => (match op with
    | .buildSlice t n parts => Nat.beq n len && (match sliceElem P t with
      | some e => shOk P e sh && zeroOk P e zero && Nat.beq zero.length sh.size && Nat.ble (len * sh.size) 16777216 && agElems parts.toList ps
      | none => false)
    | _ => false)
  | .load sh y => (match op with | .load t x => shOk P t sh && agOpd x y | _ => false)
  | .loadT sh y => (match op with | .load t x => shOk P t sh && agOpd x y | _ => false)
  | .store n p v => (match op with | .store t p' v' => szIs P t n && agOpd p' p && agOpd v' v | _ => false)
  | .storeN n p v => (match op with | .store t p' v' => szIs P t n && agOpd p' p && agOpd v' v | _ => false)
  | .bin b et x y => (match op with | .binOp b' t x' y' _ => decide (b' = b) && eqTyOk P t et && agOpd x' x && agOpd y' y | _ => false)
  | .un u x => (match op with | .unOp u' _ x' => decide (u' = u) && agOpd x' x | _ => false)
  | .conv k x => (match op with | .convert s d x' => (P.underlying s).isSome && (isInt P d == some k) && agOpd x' x | _ => false)
  | .mkFn f fi ca => (match op with | .makeFunc (.func g) fi' ca' => Nat.beq g f && agOpds fi'.toList fi && agOpds ca'.toList ca | _ => false)
  | .mkMap => (match op with | .makeMap _ none => true | _ => false)
  | .mkSlice zero sh by_ l c => (match op with
    | .makeSlice t l' c' => (match sliceElem P t with
      | some e => shOk P e sh && zeroOk P e zero && byIs P e by_ && Nat.beq zero.length sh.size && Nat.blt 0 by_ | none => false) && agOpd l' l && agOpd c' c
    | _ => false)
  | .slice sh x lo hi mx => (match op with
    | .slice t x' lo' hi' mx' => (match sliceElem P t with | some e => shOk P e sh | none => false) && agOpd x' x && agOpt lo' lo && agOpt hi' hi && agOpt mx' mx
    | _ => false)
  | .sliceA n sh x lo hi mx => (match op with
    | .slice t x' lo' hi' mx' => (match P.underlying t with | some (.array m e) => Nat.beq m n && shOk P e sh | _ => false) && agOpd x' x && agOpt lo' lo && agOpt hi' hi && agOpt mx' mx
    | _ => false)
  | .fldA off sh x => (match op with
    | .fieldAddr t x' f => (match P.underlying t with
      | some (.struct fs) => (match fs[f]? with | some fd => Nat.beq fd.offset off && shOk P fd.type sh | none => false)
      | _ => false) && agOpd x' x
    | _ => false)
  | .fld off sh x => (match op with
    | .field t x' f => (match P.underlying t with
      | some (.struct fs) => (match fs[f]? with | some fd => Nat.beq fd.offset off && shOk P fd.type sh | none => false)
      | _ => false) && agOpd x' x
    | _ => false)
  | .idxS sh x i => (match op with
    | .indexAddr t x' i' => (match sliceElem P t with | some e => shOk P e sh | none => false) && agOpd x' x && agOpd i' i
    | _ => false)
  | .idxA n sh x i => (match op with
    | .indexAddr t x' i' => (match P.underlying t with | some (.array m e) => Nat.beq m n && shOk P e sh | _ => false) && agOpd x' x && agOpd i' i
    | _ => false)
  | .idx n sh x i => (match op with
    | .index t x' i' => (match P.underlying t with | some (.array m e) => Nat.beq m n && shOk P e sh | _ => false) && agOpd x' x && agOpd i' i
    | _ => false)
  | .idxStr x i => (match op with
    | .index t x' i' => (match P.underlying t with | some .string => true | _ => false) && agOpd x' x && agOpd i' i
    | _ => false)
  | .look zero kn x k ok => (match op with
    | .lookup t x' k' ok' => (match isMapOk P t kn with | some (_, e) => zeroOk1 P e zero | none => false) && agOpd x' x && agOpd k' k && (ok == ok')
    | _ => false)
  | .mupd kn m k v => (match op with
    | .mapUpdate t m' k' v' => (isMapOk P t kn).isSome && agOpd m' m && agOpd k' k && agOpd v' v
    | _ => false)
  | .ment zero kn m k => (match op with
    | .mapEntry t m' k' => (match isMapOk P t kn with | some (_, e) => zeroOk1 P e zero | none => false) && agOpd m' m && agOpd k' k
    | _ => false)
  | .estore m s v => (match op with
    | .entryStore _ m' s' v' => agOpd m' m && agOpd s' s && agOpd v' v
    | _ => false)
  | .ext i x => (match op with | .extract x' i' => Nat.beq i' i && agOpd x' x | _ => false)
  | .call _ _ f args => (match op with
    | .call c => (match c.callee with | .value f' => agOpd f' f && agOpds c.args.toList args | _ => false)
    | _ => false)
  | .app sh by_ x y => (match op with
    | .call ⟨.builtin .append, as, ts⟩ => (match as.toList, ts[0]?, ts[1]? with
      | [x', y'], some t, some u => (match sliceElem P t with | some e => shOk P e sh && byIs P e by_ && Nat.blt 0 by_ && (zeroOkAny P e sh.size) | none => false) && (sliceElem P u).isSome && agOpd x' x && agOpd y' y
      | _, _, _ => false)
    | _ => false)
  | .appN sh by_ x y => (match op with
    | .call ⟨.builtin .append, as, ts⟩ => (match as.toList, ts[0]?, ts[1]? with
      | [x', y'], some t, some u => (match sliceElem P t with | some e => shOk P e sh && byIs P e by_ && Nat.blt 0 by_ && (zeroOkAny P e sh.size) | none => false) && (sliceElem P u).isSome && agOpd x' x && agOpd y' y
      | _, _, _ => false)
    | _ => false)
  | .appZ zero sh by_ x n => (match op with
    | .call ⟨.builtin .append, as, ts⟩ => (match as.toList, ts[0]?, ts[1]? with
      | [x', y'], some t, some u => (match sliceElem P t with | some e => shOk P e sh && byIs P e by_ && Nat.blt 0 by_ && zeroOk P e zero && Nat.beq zero.length sh.size | none => false) && (isInt P u).isSome && agOpd x' x && agOpd y' n
      | _, _, _ => false)
    | _ => false)
  | .lenA n => (match op with
    | .call ⟨.builtin .len, as, ts⟩ => (match as.toList, ts[0]? with
      | [_], some t => (match P.underlying t with | some (.array m _) => Nat.beq m n | _ => false)
      | _, _ => false)
    | _ => false)
  | .len x => (match op with
    | .call ⟨.builtin .len, as, ts⟩ => (match as.toList, ts[0]? with
      | [x'], some t => (sliceElem P t).isSome && agOpd x' x
      | _, _ => false)
    | _ => false)
  | .lenM x => (match op with
    | .call ⟨.builtin .len, as, ts⟩ => (match as.toList, ts[0]? with
      | [x'], some t => (match P.underlying t with | some (.map _ _) => true | _ => false) && agOpd x' x
      | _, _ => false)
    | _ => false)
  | .cap x => (match op with
    | .call ⟨.builtin .cap, as, ts⟩ => (match as.toList, ts[0]? with
      | [x'], some t => (sliceElem P t).isSome && agOpd x' x
      | _, _ => false)
    | _ => false)
  | .clear zero x => (match op with
    | .call ⟨.builtin .clear, as, ts⟩ => (match as.toList, ts[0]? with
      | [x'], some t => (match sliceElem P t with | some e => zeroOk P e zero | none => false) && agOpd x' x
      | _, _ => false)
    | _ => false)
  | .max l => (match op with
    | .call ⟨.builtin .max, as, _⟩ => agOpds as.toList l
    | _ => false)
  | .min l => (match op with
    | .call ⟨.builtin .min, as, _⟩ => agOpds as.toList l
    | _ => false)
  | .nilchk x => (match op with | .nilCheck x' => agOpd x' x | _ => false)
where
  zeroOkAny (P : Program) (e : TypeId) (n : Nat) : Bool := match P.info? e with | some i => (match i.zero with | some z => Nat.beq z.cells.size n && (z.cells.toList.all Value.oneCell') | none => false) | none => false

/-- the temporaries that an operand names -/
def Opd.use : Opd → List Nat
  | .t n => [n]
  | _ => []

def uses (l : List Opd) : List Nat := l.flatMap Opd.use

def useO : Option Opd → List Nat
  | some x => x.use
  | none => []

def AOp.uses : AOp → List Nat
  | .mov x | .box x | .load _ x | .loadT _ x | .un _ x | .conv _ x | .fldA _ _ x | .fld _ _ x | .ext _ x | .len x | .lenM x | .cap x | .clear _ x | .nilchk x => x.use
  | .nilv _ | .alloc _ | .mkMap | .lenA _ | .stuck => []
  | .pick c x y => c.use ++ x.use ++ y.use
  | .build _ ps => ps.flatMap fun p => p.2.2.use
  | .mkSl _ _ _ ps => ps.flatMap fun p => p.2.use
  | .store _ p v | .storeN _ p v => p.use ++ v.use
  | .bin _ _ x y | .idxS _ x y | .idxA _ _ x y | .idx _ _ x y | .idxStr x y | .look _ _ x y _ | .ment _ _ x y | .app _ _ x y | .appN _ _ x y | .appZ _ _ _ x y | .mkSlice _ _ _ x y => x.use ++ y.use
  | .mkFn _ a b => Va.uses a ++ Va.uses b
  | .slice _ x lo hi mx | .sliceA _ _ x lo hi mx => x.use ++ useO lo ++ useO hi ++ useO mx
  | .mupd _ m k v | .estore m k v => m.use ++ k.use ++ v.use
  | .call _ _ f args => f.use ++ Va.uses args
  | .max l | .min l => Va.uses l

/-- all temporaries that an operation looks at -/
def AOpr.looks (o : AOpr) : List Nat := (match o.guard with | some (g, _) => [g] | none => []) ++ o.op.uses

def Kd.isInert : Kd → Bool
  | .inert => true
  | _ => false

def Kd.isEff : Kd → Bool
  | .eff | .callE => true
  | _ => false

def Kd.isEffN : Kd → Bool
  | .effN => true
  | _ => false

/-- a load and a store that lead to different objects -/
def apartOps (ex : List (Nat × Nat)) (x y : AOp) : Bool :=
  match x, y with
  | .load _ (.t p), .store _ (.t q) _ => ex.elem (p, q)
  | .store _ (.t q) _, .load _ (.t p) => ex.elem (p, q)
  | _, _ => false

/-- may the order of two operations matter? -/
def clash (ex : List (Nat × Nat)) (x y : AOpr) : Bool :=
  (match x.dst with | some d => y.looks.elem d || y.dst == some d | none => false) ||
  (match y.dst with | some d => x.looks.elem d | none => false) ||
  (((x.op.kd.isEff && !y.op.kd.isInert) || (y.op.kd.isEff && !x.op.kd.isInert)) && !(apartOps ex x.op y.op)) ||
  (x.op.kd.isEffN && y.op.kd.isEffN)

/-- what each operation waits for, as bits -/
def bitsFrom : List Oper → List Nat → List Nat
  | [], acc => acc
  | o :: r, acc => CheckFast.force (CheckFast.one (fun i => acc.getD i 0) o) fun v => bitsFrom r (acc ++ [v])

def edgesBack : Nat → List Oper → Bool
  | _, [] => true
  | j, o :: r => (o.after.toList.all fun e => !(Region.binds .any e) || Nat.blt e.on j) && edgesBack (j + 1) r

/-- every clash of operation y (number j) with one before it is in its bits -/
def clashRow (ex : List (Nat × Nat)) (bits : Nat) (y : AOpr) : Nat → List AOpr → Bool
  | _, [] => true
  | i, x :: r => (!(clash ex x y) || bits.testBit i) && clashRow ex bits y (i + 1) r

def clashes (ex : List (Nat × Nat)) (all : List AOpr) (bits : List Nat) : Nat → List AOpr → Bool
  | _, [] => true
  | j, y :: r => clashRow ex (bits.getD j 0) y 0 (all.take j) && clashes ex all bits (j + 1) r

def exStays (ex : List (Nat × Nat)) (l : List AOpr) : Bool := ex.all fun p => l.all fun o => !(o.dst == some p.1) && !(o.dst == some p.2)

def Kd.isCallE : Kd → Bool
  | .callE => true
  | _ => false

/-- an operation that changes no object -/
def Kd.still : Kd → Bool
  | .inert | .mem | .call => true
  | _ => false

/-- a call that changes memory stands beside operations that do not -/
def callEs (l : List AOpr) : Bool := !(l.any fun o => o.op.kd.isCallE) || l.all fun o => o.op.kd.isCallE || o.op.kd.still

def drawOk (ex : List (Nat × Nat)) (ops : List Oper) (l : List AOpr) : Bool :=
  edgesBack 0 ops && exStays ex l && clashes ex l (bitsFrom ops []) 0 l && callEs l

def noSel (ops : List Oper) : Bool := ops.all fun o => match o.op with | .select .. => false | _ => true

def agOper (P : Program) (N : Nat) (ops : Array Oper) (o : Oper) (a : AOpr) : Bool :=
  (o.dst == a.dst) && (match o.dst with | some d => Nat.blt d N | none => true) &&
  (match o.guard, a.guard with
   | none, none => true
   | some (j, w), some (g, w') => (w == w') && (((ops[j]?).bind (·.dst)) == some g)
   | _, _ => false) &&
  agOp P o.op a.op

def agOpers (P : Program) (N : Nat) (ops : Array Oper) : List Oper → List AOpr → Bool
  | [], [] => true
  | o :: r, a :: s => agOper P N ops o a && agOpers P N ops r s
  | _, _ => false

def agCode (P : Program) (N : Nat) : Code → AC → Bool
  | .skip, .skip => true
  | .label _, .skip => true
  | .region _ ops draw, .region _ ex l draw' _ => (draw == draw') && agOpers P N ops ops.toList l && (!draw || (drawOk ex ops.toList l && noSel ops.toList))
  | .seq a b, .seq a' b' => agCode P N a a' && agCode P N b b'
  | .cond c a b, .cond c' a' b' _ => agOpd c c' && agCode P N a a' && agCode P N b b'
  | .block i a, .block i' a' _ => Nat.beq i i' && agCode P N a a'
  | .loop a, .loop a' _ => agCode P N a a'
  | .scope a, a' => agCode P N a a'
  | .exit i, .exit i' => Nat.beq i i'
  | .ret, .ret => true
  | _, _ => false

def agRes (P : Program) : List ResultVar → List ResV → Bool
  | [], [] => true
  | .tmp t :: r, .t n :: s => Nat.beq t n && agRes P r s
  | .cell t ty :: r, .cell n sh :: s => Nat.beq t n && shOk P ty sh && agRes P r s
  | _, _ => false

/-- the check of one function -/
def agFunc (P : Program) (fn : Func) (a : AFunc) : Bool :=
  !(fn.name == "runtime.NumGoroutine") && agRes P fn.results.toList a.res &&
  (match fn.body with | some c => agCode P fn.ntmps c a.body | none => false)

end Go.Va
/-! The abstract machine against the model: operands, parts, and the operations that touch no memory. -/
namespace Go.Va

variable {P : Program} {g : G}

/-! ## Types -/

theorem szIs_run {t : TypeId} {n : Nat} (h : szIs P t n = true) (w : World) : (sizeOf t).run P w = .ok n w := by
  unfold szIs at h
  cases hi : P.info? t with
  | none => simp [hi] at h
  | some i =>
    simp only [hi, Nat.beq_eq] at h
    rw [run_sizeOf w hi]
    simp [Program.cellsOf, hi, h]

theorem byIs_run {t : TypeId} {n : Nat} (h : byIs P t n = true) : ∃ i, P.info? t = some i ∧ i.bytes = n := by
  unfold byIs at h
  cases hi : P.info? t with
  | none => simp [hi] at h
  | some i =>
    simp only [hi, Nat.beq_eq] at h
    exact ⟨i, rfl, h⟩

theorem shOk_spec {t : TypeId} {sh : Sh} (h : shOk P t sh = true) : szIs P t sh.size = true ∧ 0 < sh.size ∧ ∀ w : World, (isAgg t).run P w = .ok sh.ag w := by
  unfold shOk at h
  cases hu : P.underlying t with
  | none => simp [hu] at h
  | some d =>
    simp only [hu, Bool.and_eq_true, Nat.blt_eq, beq_iff_eq] at h
    refine ⟨h.1.1, h.1.2, fun w => ?_⟩
    rw [← h.2]
    simp only [isAgg, Sem.run_bind, run_underlying hu, Result.andThen_ok]
    cases d <;> rfl

theorem sliceElem_spec {t e : TypeId} (h : sliceElem P t = some e) : P.underlying t = some (.slice e) := by
  unfold sliceElem at h
  split at h
  · rename_i e' he
    simp only [Option.some.injEq] at h; subst h; exact he
  · cases h

/-! ## Constants, operands -/

theorem agCell_R {v : Value} {a : AV} (h : agCell v a = true) : R g a v := by
  unfold agCell at h
  split at h <;> simp_all [R]

theorem agCell_scalar {v : Value} {a : AV} (h : agCell v a = true) : a.scalar = true := by
  unfold agCell at h
  split at h <;> simp_all [AV.scalar]

theorem agConsts_RL : ∀ {vs : List Value} {l : List AV}, agConsts vs l = true → RL g l vs
  | [], [], _ => by simp [RL]
  | [], _ :: _, h => by simp [agConsts] at h
  | _ :: _, [], h => by simp [agConsts] at h
  | v :: vs, a :: l, h => by
    simp only [agConsts, Bool.and_eq_true] at h
    simp only [RL]
    exact ⟨v, vs, rfl, agCell_R h.1, agConsts_RL h.2⟩

theorem agConst_R {v : Value} {a : AV} (h : agConst v a = true) : R g a v := by
  unfold agConst at h
  split at h
  · rename_i cs ds
    simp only [R]
    exact ⟨cs.toList, by simp, agConsts_RL h⟩
  · exact agCell_R h

/-- the relation of temporaries at some names -/
def TOn (g : G) (t : T) (tmps : Array Value) (l : List Nat) : Prop := ∀ n, n ∈ l → R g (t.get n) (tmps.getD n undef)

theorem TOn.sub {t : T} {tmps : Array Value} {l l' : List Nat} (h : TOn g t tmps l) (hs : ∀ n, n ∈ l' → n ∈ l) : TOn g t tmps l' := fun n hn => h n (hs n hn)

theorem agOpd_R {a : Act} {t : T} {x : Operand} {y : Opd} (h : agOpd x y = true) (ht : TOn g t a.tmps y.use) : R g (y.ev t) (a.eval x) := by
  unfold agOpd at h
  split at h
  · rename_i n m
    rw [Nat.beq_eq] at h; subst h
    simpa [Opd.ev, Act.eval] using ht n (by simp [Opd.use])
  · rename_i v c
    simpa [Opd.ev, Act.eval] using agConst_R h
  · rename_i f f'
    rw [Nat.beq_eq] at h; subst h
    simp only [Opd.ev, Act.eval, R, RL]
    exact ⟨[], [], rfl, rfl, rfl⟩
  · cases h

theorem agOpds_RL {a : Act} {t : T} : ∀ {xs : List Operand} {ys : List Opd}, agOpds xs ys = true → TOn g t a.tmps (uses ys) → RL g (evs t ys) (xs.map a.eval)
  | [], [], _, _ => by simp [RL, evs]
  | [], _ :: _, h, _ => by simp [agOpds] at h
  | _ :: _, [], h, _ => by simp [agOpds] at h
  | x :: xs, y :: ys, h, ht => by
    simp only [agOpds, Bool.and_eq_true] at h
    simp only [RL, evs, List.map_cons]
    refine ⟨_, _, rfl, agOpd_R h.1 (ht.sub ?_), agOpds_RL h.2 (ht.sub ?_)⟩ <;> intro n hn <;> simp [uses] at hn ⊢ <;> simp [hn]

/-! ## Cells and parts -/

theorem RL_drop {cs : List AV} {vs : List Value} (h : RL g cs vs) (n : Nat) : RL g (cs.drop n) (vs.drop n) := by
  induction n generalizing cs vs with
  | zero => simpa using h
  | succ n ih =>
    cases cs with
    | nil => simp only [RL] at h; subst h; simp [RL]
    | cons c cs =>
      simp only [RL] at h
      obtain ⟨v, r, rfl, _, h2⟩ := h
      simpa using ih h2

theorem RL_take {cs : List AV} {vs : List Value} (h : RL g cs vs) (n : Nat) : RL g (cs.take n) (vs.take n) := by
  induction n generalizing cs vs with
  | zero => simp [RL]
  | succ n ih =>
    cases cs with
    | nil => simp only [RL] at h; subst h; simp [RL]
    | cons c cs =>
      simp only [RL] at h
      obtain ⟨v, r, rfl, h1, h2⟩ := h
      simp only [List.take_succ_cons, RL]
      exact ⟨v, _, rfl, h1, ih h2⟩

theorem RL_append {cs ds : List AV} {vs us : List Value} (h : RL g cs vs) (h' : RL g ds us) : RL g (cs ++ ds) (vs ++ us) := by
  induction cs generalizing vs with
  | nil => simp only [RL] at h; subst h; simpa using h'
  | cons c cs ih =>
    simp only [RL] at h
    obtain ⟨v, r, rfl, h1, h2⟩ := h
    simp only [List.cons_append, RL]
    exact ⟨v, _, rfl, h1, ih h2⟩

theorem scalar_one {a : AV} {v : Value} (h : R g a v) (hs : a.scalar = true) : v.oneCell' = true := by
  cases a <;> simp only [AV.scalar, Bool.false_eq_true] at hs <;> simp only [R] at h
  case bool => subst h; rfl
  case int => subst h; rfl
  case str => subst h; rfl
  case func => obtain ⟨x, y, rfl, _⟩ := h; rfl
  case nilF => subst h; rfl
  case nilP => subst h; rfl
  case nilM => subst h; rfl
  case ptr => obtain ⟨b, s, _, rfl⟩ := h; rfl
  case tptr => obtain ⟨b, s, rfl, _⟩ := h; rfl
  case slT => obtain ⟨a, c, rfl, _⟩ := h; rfl
  case slR => rcases h with ⟨_, _, _, rfl⟩ | ⟨b, s, c, _, rfl, _⟩ <;> rfl
  case mapR => obtain ⟨b, s, _, rfl⟩ := h; rfl
  case mapT => obtain ⟨b, rfl, _⟩ := h; rfl

theorem one_cells {v : Value} (h : v.oneCell' = true) : v.cells = #[v] := by
  cases v <;> simp_all [Value.oneCell', Value.cells]

theorem scalars_get : ∀ {cs : List AV}, scalars cs = true → ∀ (j : Nat) (c : AV), cs[j]? = some c → c.scalar = true
  | [], _, j, c, h => by simp at h
  | a :: cs, hs, j, c, h => by
    simp only [scalars, Bool.and_eq_true] at hs
    cases j with
    | zero => simp at h; subst h; exact hs.1
    | succ j => exact scalars_get hs.2 j c (by simpa using h)

theorem scalars_mem {cs : List AV} (hs : scalars cs = true) {c : AV} (h : c ∈ cs) : c.scalar = true := by
  obtain ⟨j, hj⟩ := List.mem_iff_getElem?.1 h
  exact scalars_get hs j c hj

theorem RL_ones {cs : List AV} {vs : List Value} (h : RL g cs vs) (hs : scalars cs = true) : ∀ v ∈ vs, v.oneCell' = true := by
  induction cs generalizing vs with
  | nil => simp only [RL] at h; subst h; simp
  | cons c cs ih =>
    simp only [RL] at h
    obtain ⟨v, r, rfl, h1, h2⟩ := h
    simp only [scalars, Bool.and_eq_true] at hs
    intro u hu
    rcases List.mem_cons.1 hu with rfl | hu
    · exact scalar_one h1 hs.1
    · exact ih h2 hs.2 u hu

/-- the cells of related values are related -/
theorem R_cells {a : AV} {v : Value} (h : R g a v) (hs : scalars a.cells = true) : RL g a.cells v.cells.toList := by
  by_cases ha : ∃ cs, a = .agg cs
  · obtain ⟨cs, rfl⟩ := ha
    simp only [R] at h
    obtain ⟨vs, rfl, hl⟩ := h
    simpa [AV.cells, Value.cells] using hl
  · have hc : a.cells = [a] := by cases a <;> first | rfl | exact absurd ⟨_, rfl⟩ ha
    rw [hc] at hs ⊢
    simp only [scalars, Bool.and_true] at hs
    rw [one_cells (scalar_one h hs)]
    simp only [RL]
    exact ⟨v, [], rfl, h, rfl⟩

theorem run_part_sh {t : TypeId} {sh : Sh} (hsh : shOk P t sh = true) {cs : List AV} {vs : List Value} (h : RL g cs vs) {off : Nat} {x : AV} (hx : partOf sh cs off = some x) (w : World) :
    ∃ cv, (part t vs.toArray off).run P w = .ok cv w ∧ R g x cv := by
  obtain ⟨hz, h0, ha⟩ := shOk_spec hsh
  cases sh with
  | one =>
    simp only [partOf] at hx
    obtain ⟨v, hv, hr⟩ := RL_get h off x hx
    refine ⟨v, ?_, hr⟩
    simp only [part, Sem.run_bind, ha w, Result.andThen_ok, Sh.ag, Bool.false_eq_true, if_false, List.getElem?_toArray, hv, Sem.run_pure]
  | many n =>
    simp only [partOf] at hx
    split at hx
    · rename_i hle
      simp only [Option.some.injEq] at hx; subst hx
      refine ⟨.agg ((vs.drop off).take n).toArray, ?_, ?_⟩
      · simp only [part, Sem.run_bind, ha w, Result.andThen_ok, Sh.ag, if_true, szIs_run hz w, Sh.size, Sem.run_pure]
        congr 2
        apply Array.ext'
        simp [List.extract]
      · simp only [R]
        exact ⟨_, rfl, RL_take (RL_drop h off) n⟩
    · cases hx

theorem natOf_int {x : AV} {n : Nat} (h : natOf x = some n) : ∃ k, x = .int k n := by
  unfold natOf at h
  split at h
  · rename_i k i
    split at h
    · simp only [Option.some.injEq] at h
      exact ⟨k, by rw [← h, Int.toNat_of_nonneg (by assumption)]⟩
    · cases h
  · cases h

theorem R_nat {x : AV} {n : Nat} {v : Value} (h : natOf x = some n) (hr : R g x v) : ∃ k, v = .int k n := by
  obtain ⟨k, rfl⟩ := natOf_int h
  simp only [R] at hr
  exact ⟨k, hr⟩

end Go.Va
/-! The operations that touch no memory: what the model's operation answers reads as the abstract answer. -/
namespace Go.Va

variable {P : Program} {g : G}

theorem foldl_set : ∀ (vs : List Value) (i off : Nat) (cells : Array Value), off + i + vs.length ≤ cells.size →
    (vs.zipIdx i).foldl (fun cs (p : Value × Nat) => cs.setIfInBounds (off + p.2) p.1) cells = (cells.toList.take (off + i) ++ vs ++ cells.toList.drop (off + i + vs.length)).toArray
  | [], i, off, cells, _ => by simp
  | v :: vs, i, off, cells, h => by
    simp only [List.length_cons] at h
    simp only [List.zipIdx_cons, List.foldl_cons]
    rw [foldl_set vs (i + 1) off _ (by simp; omega)]
    congr 1
    apply List.ext_getElem?
    intro j
    simp only [Array.toList_setIfInBounds, List.getElem?_append, List.getElem?_take, List.getElem?_drop, List.getElem?_set, List.length_append, List.length_take, List.length_set, Array.length_toList, List.length_cons, List.getElem?_cons]
    by_cases h1 : j < off + i
    · have e1 : min (off + i) cells.size = off + i := by omega
      have e2 : min (off + (i + 1)) cells.size = off + (i + 1) := by omega
      simp [e1, e2, h1, show j < off + (i + 1) by omega, show ¬ off + i = j by omega, show j < off + i + (vs.length + 1) by omega, show j < off + (i + 1) + vs.length by omega]
    · have e1 : min (off + i) cells.size = off + i := by omega
      have e2 : min (off + (i + 1)) cells.size = off + (i + 1) := by omega
      by_cases h2 : j = off + i
      · subst h2
        simp [e1, e2, show off + i < off + (i + 1) by omega, show off + i < off + (i + 1) + vs.length by omega, show off + i < cells.size by omega]
      · by_cases h3 : j < off + i + (vs.length + 1)
        · have e3 : j - (off + i) = (j - (off + (i + 1))) + 1 := by omega
          simp [e1, e2, h1, show ¬ j < off + (i + 1) by omega, show j < off + (i + 1) + vs.length by omega, h3, e3]
        · simp [e1, e2, h3, show ¬ j < off + (i + 1) + vs.length by omega]
          rw [if_neg (by omega)]
          congr 1
          omega

theorem putAt_RL {cs ds : List AV} {vs us : List Value} (h : RL g cs vs) (h' : RL g ds us) (off : Nat) :
    RL g (putAt cs off ds) (vs.take off ++ us ++ vs.drop (off + us.length)) := by
  unfold putAt
  rw [RL_len h']
  exact RL_append (RL_append (RL_take h off) h') (RL_drop h _)

theorem fill_R (place : Nat → Option (Nat × Nat)) {t : T} {a : Act} : ∀ {ps : List (Nat × Operand)} {qs : List (Nat × Nat × Opd)} {cs out : List AV} {vs : List Value},
    agParts place ps qs = true → TOn g t a.tmps (qs.flatMap fun p => p.2.2.use) → RL g cs vs →
    fillV cs (qs.map fun (o, n, x) => (o, n, x.ev t)) = some out →
    ∃ us, Instr.fill place vs.toArray (ps.map fun (i, x) => (i, a.eval x)) = some us.toArray ∧ RL g out us
  | [], [], cs, out, vs, _, _, hr, ho => by
    simp only [List.map_nil, fillV, Option.some.injEq] at ho; subst ho
    exact ⟨vs, rfl, hr⟩
  | [], _ :: _, _, _, _, h, _, _, _ => by simp [agParts] at h
  | _ :: _, [], _, _, _, h, _, _, _ => by simp [agParts] at h
  | (i, x) :: ps, (off, n, y) :: qs, cs, out, vs, h, ht, hr, ho => by
    simp only [agParts, Bool.and_eq_true] at h
    obtain ⟨⟨hp, hx⟩, hrest⟩ := h
    cases hpl : place i with
    | none => simp [hpl] at hp
    | some pm =>
      obtain ⟨o', m⟩ := pm
      simp only [hpl, Bool.and_eq_true, Nat.beq_eq] at hp
      obtain ⟨rfl, rfl⟩ := hp
      simp only [List.map_cons, fillV] at ho
      split at ho
      · rename_i hc
        simp only [Bool.and_eq_true, Nat.beq_eq, Nat.ble_eq] at hc
        obtain ⟨⟨hn, hs⟩, hle⟩ := hc
        have hxr := agOpd_R hx (ht.sub (fun k hk => by simp; exact .inl hk))
        have hcr := R_cells hxr hs
        have hl1 := RL_len hcr
        have hl2 := RL_len hr
        have hlen : (a.eval x).cells.size = m := by simpa [hn] using hl1.symm
        have hnew := putAt_RL hr hcr o'
        obtain ⟨us, hu, hru⟩ := fill_R place hrest (ht.sub (fun k hk => by simp only [List.flatMap_cons, List.mem_append]; exact .inr hk)) hnew ho
        refine ⟨us, ?_, hru⟩
        rw [← hu]
        simp only [List.map_cons, Instr.fill, hpl]
        rw [if_neg (by simp [hlen]; omega)]
        congr 1
        rw [← Array.foldl_toList, Array.toList_zipIdx]
        have := foldl_set (a.eval x).cells.toList 0 o' vs.toArray (by simp [hlen]; omega)
        simpa [hlen] using this
      · cases ho

theorem run_zeroValue {t : TypeId} {i : TypeInfo} {z : Value} (h : P.info? t = some i) (hz : i.zero = some z) (w : World) : (zeroValue t).run P w = .ok z w := by
  simp [zeroValue, run_typeInfo w h, hz]

theorem zeroOk_spec {t : TypeId} {cs : List AV} (h : zeroOk P t cs = true) : ∃ z, (∀ w : World, (zeroValue t).run P w = .ok z w) ∧ RL g cs z.cells.toList ∧ scalars cs = true := by
  unfold zeroOk at h
  cases hi : P.info? t with
  | none => simp [hi] at h
  | some i =>
    simp only [hi] at h
    cases hz : i.zero with
    | none => simp [hz] at h
    | some z =>
      simp only [hz, Bool.and_eq_true] at h
      exact ⟨z, fun w => run_zeroValue hi hz w, agConsts_RL h.1, h.2⟩

theorem zeroOk1_spec {t : TypeId} {x : AV} (h : zeroOk1 P t x = true) : ∃ z, (∀ w : World, (zeroValue t).run P w = .ok z w) ∧ R g x z ∧ scalars x.cells = true := by
  unfold zeroOk1 at h
  cases hi : P.info? t with
  | none => simp [hi] at h
  | some i =>
    simp only [hi] at h
    cases hz : i.zero with
    | none => simp [hz] at h
    | some z =>
      simp only [hz, Bool.and_eq_true] at h
      exact ⟨z, fun w => run_zeroValue hi hz w, agConst_R h.1, h.2⟩

/-! ## Integers -/

theorem R_int {k : IntKind} {n : Int} : R g (.int k n) (.int k n) := by simp [R]

theorem R_bool {b : Bool} : R g (.bool b) (.bool b) := by simp [R]


theorem binOp_int {op : BinOp} {k k' : IntKind} {x y : Int} {et : Nat} {r : AV} (h : binV op et (.int k x) (.int k' y) = some r) (ty : TypeId) (xo yo : Operand) (w : World) :
    ∃ cv, (do eqGuard op ty xo yo (.int k x) (.int k' y); binOp op ty (.int k x) (.int k' y) : Sem Value).run P w = .ok cv w ∧ R g r cv := by
  have hg : (eqGuard op ty xo yo (.int k x) (.int k' y)).run P w = .ok () w := by
    unfold eqGuard; split <;> simp
  simp only [Sem.run_bind, hg, Result.andThen_ok]
  simp only [binV] at h
  by_cases hs : isShift op = true
  · simp only [hs, if_true] at h
    unfold shiftBin at h
    split at h
    · cases h
    · rename_i hy
      cases op <;> simp [isShift] at hs
      · simp only [Option.some.injEq] at h; subst h
        exact ⟨_, by simp [binOp, Op.shift, hy], R_int⟩
      · simp only [Option.some.injEq] at h; subst h
        exact ⟨_, by simp [binOp, Op.shift, hy], R_int⟩
  · simp only [hs, Bool.false_eq_true, if_false] at h
    split at h
    · rename_i hk
      subst hk
      cases op <;> simp [isShift] at hs <;> simp only [intBin] at h
      case quo =>
        split at h
        · cases h
        · rename_i hy
          simp only [Option.some.injEq] at h; subst h
          exact ⟨_, by simp [binOp, Op.intDiv, hy], R_int⟩
      case rem =>
        split at h
        · cases h
        · rename_i hy
          simp only [Option.some.injEq] at h; subst h
          exact ⟨_, by simp [binOp, Op.intDiv, hy], R_int⟩
      all_goals
        simp only [Option.some.injEq] at h; subst h
        first
          | (refine ⟨_, ?_, R_int⟩; simp [binOp, Op.intArith]; done)
          | (refine ⟨_, ?_, R_int⟩; simp [binOp, Op.intBits]; done)
          | (refine ⟨_, ?_, R_bool⟩; simp [binOp, Op.intCmp]; done)
    · cases h

/-! ## Equality of rows of integers -/

theorem eqCells_len : ∀ {xs ys : List AV} {r : Bool}, eqCells xs ys = some r → xs.length = ys.length
  | [], [], _, _ => rfl
  | [], _ :: _, _, h => by simp [eqCells] at h
  | x :: _, [], _, h => by cases x <;> simp [eqCells] at h
  | x :: xs, y :: ys, r, h => by
    cases x <;> cases y <;> simp only [eqCells, reduceCtorEq] at h
    split at h
    · split at h
      · rename_i r' hr'
        simp [eqCells_len hr']
      · cases h
    · cases h

/-- both are integers of one kind, place by place -/
def IntsAt (vs us : List Value) : Prop := ∀ (j : Nat) (v u : Value), vs[j]? = some v → us[j]? = some u → ∃ k a b, v = .int k a ∧ u = .int k b

theorem eqCells_ints : ∀ {xs ys : List AV} {r : Bool} {vs us : List Value}, eqCells xs ys = some r → RL g xs vs → RL g ys us →
    vs.length = us.length ∧ IntsAt vs us ∧ (r = true ↔ vs = us)
  | [], [], r, vs, us, h, h1, h2 => by
    simp only [RL] at h1 h2; subst h1 h2
    simp only [eqCells, Option.some.injEq] at h; subst h
    exact ⟨rfl, fun j v u hv => by simp at hv, by simp⟩
  | [], _ :: _, _, _, _, h, _, _ => by simp [eqCells] at h
  | x :: _, [], _, _, _, h, _, _ => by cases x <;> simp [eqCells] at h
  | x :: xs, y :: ys, r, vs, us, h, h1, h2 => by
    cases x <;> cases y <;> simp only [eqCells, reduceCtorEq] at h
    rename_i k a k' b
    split at h
    · rename_i hk
      subst hk
      split at h
      · rename_i r' hr'
        simp only [Option.some.injEq] at h; subst h
        simp only [RL] at h1 h2
        obtain ⟨v, vr, rfl, hv, h1⟩ := h1
        obtain ⟨u, ur, rfl, hu, h2⟩ := h2
        simp only [R] at hv hu
        subst hv hu
        obtain ⟨e1, e2, e3⟩ := eqCells_ints hr' h1 h2
        refine ⟨by simp [e1], ?_, ?_⟩
        · intro j v u hv hu
          cases j with
          | zero => simp at hv hu; exact ⟨k, a, b, hv.symm, hu.symm⟩
          | succ j => exact e2 j v u (by simpa using hv) (by simpa using hu)
        · simp [← e3]
      · cases h
    · cases h

/-- values of a flat type that is one cell or an aggregate, compared -/
def EqRun (P : Program) (dd : Nat) (e : TypeId) (n : Nat) : Prop :=
  ∀ (w : World) (vs us : List Value), vs.length = n → us.length = n → IntsAt vs us →
    ∃ r : Bool, (r = true ↔ vs = us) ∧
      ((∃ q, P.underlying e = some (.int q)) → ∃ v u, vs = [v] ∧ us = [u] ∧ (Op.equalIn dd e v u).run P w = .ok r w) ∧
      ((¬ ∃ q, P.underlying e = some (.int q)) → (Op.equalIn dd e (.agg vs.toArray) (.agg us.toArray)).run P w = .ok r w)

theorem flat_kind {m : Nat} {t : TypeId} {n : Nat} (h : flatN P m t = some n) :
    (∃ q, P.underlying t = some (.int q) ∧ n = 1) ∨ (∃ d, P.underlying t = some d ∧ isAggD d = true) := by
  cases m with
  | zero => simp [flatN] at h
  | succ m =>
    simp only [flatN] at h
    split at h
    · rename_i q hq
      split at h
      · simp only [Option.some.injEq] at h; exact .inl ⟨q, hq, h.symm⟩
      · cases h
    · rename_i n' e he; exact .inr ⟨_, he, rfl⟩
    · rename_i fs hfs; exact .inr ⟨_, hfs, rfl⟩
    · cases h

/-- a part of a row, at a flat type -/
theorem run_part_flat {m : Nat} {e : TypeId} {c : Nat} (hf : flatN P m e = some c) (hz : szIs P e c = true) {dd : Nat} (ih : EqRun P dd e c)
    {vs us : List Value} (hi : IntsAt vs us) (hl : vs.length = us.length) {off : Nat} (hle : off + c ≤ vs.length) (w : World) :
    ∃ a b r, (part e vs.toArray off).run P w = .ok a w ∧ (part e us.toArray off).run P w = .ok b w ∧ (Op.equalIn dd e a b).run P w = .ok r w ∧
      (r = true ↔ (vs.drop off).take c = (us.drop off).take c) := by
  have hi' : IntsAt ((vs.drop off).take c) ((us.drop off).take c) := by
    intro j v u hv hu
    rw [List.getElem?_take] at hv hu
    split at hv
    · rename_i hj
      simp only [hj, if_true] at hu
      rw [List.getElem?_drop] at hv hu
      exact hi _ v u hv hu
    · cases hv
  obtain ⟨r, hr, h1, h2⟩ := ih w ((vs.drop off).take c) ((us.drop off).take c) (by simp; omega) (by simp; omega) hi'
  rcases flat_kind hf with ⟨q, hq, rfl⟩ | ⟨d, hd, hag⟩
  · obtain ⟨v, u, hv, hu, hrun⟩ := h1 ⟨q, hq⟩
    have hv' : vs[off]? = some v := by
      have : ((vs.drop off).take 1)[0]? = some v := by rw [hv]; rfl
      simpa [List.getElem?_take, List.getElem?_drop] using this
    have hu' : us[off]? = some u := by
      have : ((us.drop off).take 1)[0]? = some u := by rw [hu]; rfl
      simpa [List.getElem?_take, List.getElem?_drop] using this
    exact ⟨v, u, r, by simp [part, isAgg, run_underlying hq, hv'], by simp [part, isAgg, run_underlying hq, hu'], hrun, hr⟩
  · have hno : ¬ ∃ q, P.underlying e = some (.int q) := by
      rintro ⟨q, hq⟩
      rw [hd] at hq
      simp only [Option.some.injEq] at hq; subst hq
      simp [isAggD] at hag
    have hagr : ∀ w : World, (isAgg e).run P w = .ok true w := by
      intro w
      simp only [isAgg, Sem.run_bind, run_underlying hd, Result.andThen_ok]
      cases d <;> simp [isAggD] at hag <;> rfl
    refine ⟨_, _, r, ?_, ?_, h2 hno, hr⟩
    · simp only [part, Sem.run_bind, hagr w, Result.andThen_ok, if_true, szIs_run hz w, Sem.run_pure]
      congr 2
      apply Array.ext'
      simp [List.extract]
    · simp only [part, Sem.run_bind, hagr w, Result.andThen_ok, if_true, szIs_run hz w, Sem.run_pure]
      congr 2
      apply Array.ext'
      simp [List.extract]

theorem run_eqItems_flat {m : Nat} {e : TypeId} {c : Nat} (hf : flatN P m e = some c) (hz : szIs P e c = true) {dd : Nat} (ih : EqRun P dd e c)
    {vs us : List Value} (hi : IntsAt vs us) (hl : vs.length = us.length) (w : World) : ∀ (n i : Nat), (i + n) * c ≤ vs.length →
    ∃ r, (Op.eqItems dd e c vs.toArray us.toArray (List.range' i n)).run P w = .ok r w ∧ (r = true ↔ ∀ j, i * c ≤ j → j < (i + n) * c → vs[j]? = us[j]?)
  | 0, i, _ => ⟨true, by simp [Op.eqItems], by simp; intro j h1 h2; omega⟩
  | n + 1, i, hle => by
    have e1 : (i + (n + 1)) * c = (i + 1 + n) * c := by congr 1; omega
    have e2 : (i + 1) * c = i * c + c := by rw [Nat.add_mul, Nat.one_mul]
    have e3 : (i + 1) * c ≤ (i + 1 + n) * c := Nat.mul_le_mul_right c (by omega)
    obtain ⟨a, b, r, h1, h2, h3, h4⟩ := run_part_flat hf hz ih hi hl (off := i * c) (by omega) w
    obtain ⟨r', h5, h6⟩ := run_eqItems_flat hf hz ih hi hl w n (i + 1) (by omega)
    have hcell : (vs.drop (i * c)).take c = (us.drop (i * c)).take c ↔ ∀ j, i * c ≤ j → j < i * c + c → vs[j]? = us[j]? := by
      constructor
      · intro he j hj1 hj2
        have := congrArg (fun l => l[j - i * c]?) he
        simpa [List.getElem?_take, List.getElem?_drop, show j - i * c < c by omega, show i * c + (j - i * c) = j by omega] using this
      · intro he
        apply List.ext_getElem?
        intro j
        simp only [List.getElem?_take, List.getElem?_drop]
        split
        · exact he _ (by omega) (by omega)
        · rfl
    simp only [List.range'_succ, Op.eqItems, Sem.run_bind, h1, h2, h3, Result.andThen_ok]
    cases r with
    | false =>
      refine ⟨false, by simp, ?_⟩
      simp only [Bool.false_eq_true, false_iff] at h4 ⊢
      intro hall
      exact h4 (hcell.2 fun j hj1 hj2 => hall j hj1 (by omega))
    | true =>
      refine ⟨r', by simpa using h5, ?_⟩
      rw [h6]
      have h4' := hcell.1 (h4.1 rfl)
      constructor
      · intro hall j hj1 hj2
        by_cases hj : j < i * c + c
        · exact h4' j hj1 hj
        · exact hall j (by omega) (by omega)
      · intro hall j hj1 hj2
        exact hall j (by omega) (by omega)

theorem run_eqFields_flat {dd : Nat} {f : TypeId → Option Nat} (hfl : ∀ t n, f t = some n → ∃ m, flatN P m t = some n) (hih : ∀ t n, f t = some n → szIs P t n = true → EqRun P dd t n)
    {vs us : List Value} (hi : IntsAt vs us) (hl : vs.length = us.length) (w : World) : ∀ (fs : List Field) (off tot : Nat), flatFs P f off fs = some tot → tot ≤ vs.length →
    off ≤ tot ∧ ∃ r, (Op.eqFields dd vs.toArray us.toArray fs).run P w = .ok r w ∧ (r = true ↔ ∀ j, off ≤ j → j < tot → vs[j]? = us[j]?)
  | [], off, tot, h, _ => by
    simp only [flatFs, Option.some.injEq] at h; subst h
    exact ⟨Nat.le_refl _, true, by simp [Op.eqFields], by simp; intro j h1 h2; omega⟩
  | fd :: fs, off, tot, h, hle => by
    simp only [flatFs] at h
    split at h
    · rename_i c hc
      split at h
      · rename_i hcond
        simp only [Bool.and_eq_true, Nat.beq_eq, Bool.not_eq_true', beq_eq_false_iff_ne] at hcond
        obtain ⟨⟨hoff, hz⟩, hname⟩ := hcond
        obtain ⟨hle', r', h5, h6⟩ := run_eqFields_flat hfl hih hi hl w fs (off + c) tot h hle
        obtain ⟨m, hm⟩ := hfl _ _ hc
        obtain ⟨a, b, r, h1, h2, h3, h4⟩ := run_part_flat hm hz (hih _ _ hc hz) hi hl (off := fd.offset) (by omega) w
        refine ⟨by omega, ?_⟩
        have hcell : (vs.drop off).take c = (us.drop off).take c ↔ ∀ j, off ≤ j → j < off + c → vs[j]? = us[j]? := by
          constructor
          · intro he j hj1 hj2
            have := congrArg (fun l => l[j - off]?) he
            simpa [List.getElem?_take, List.getElem?_drop, show j - off < c by omega, show off + (j - off) = j by omega] using this
          · intro he
            apply List.ext_getElem?
            intro j
            simp only [List.getElem?_take, List.getElem?_drop]
            split
            · exact he _ (by omega) (by omega)
            · rfl
        rw [hoff] at h4
        simp only [Op.eqFields, ne_eq, hname, not_false_eq_true, if_true, Sem.run_bind, h1, h2, h3, Result.andThen_ok]
        cases r with
        | false =>
          refine ⟨false, by simp, ?_⟩
          simp only [Bool.false_eq_true, false_iff] at h4 ⊢
          intro hall
          exact h4 (hcell.2 fun j hj1 hj2 => hall j hj1 (by omega))
        | true =>
          refine ⟨r', by simpa using h5, ?_⟩
          rw [h6]
          have h4' := hcell.1 (h4.1 rfl)
          constructor
          · intro hall j hj1 hj2
            by_cases hj : j < off + c
            · exact h4' j hj1 hj
            · exact hall j (by omega) (by omega)
          · intro hall j hj1 hj2
            exact hall j (by omega) (by omega)
      · cases h
    · cases h

theorem list_eq_iff {vs us : List Value} {n : Nat} (h1 : vs.length = n) (h2 : us.length = n) : vs = us ↔ ∀ j, j < n → vs[j]? = us[j]? := by
  constructor
  · rintro rfl j _; rfl
  · intro h
    apply List.ext_getElem?
    intro j
    by_cases hj : j < n
    · exact h j hj
    · rw [List.getElem?_eq_none (by omega), List.getElem?_eq_none (by omega)]

theorem run_equalIn_flat (d : Nat) : ∀ (m : Nat) (t : TypeId) (n : Nat), flatN P m t = some n → EqRun P (d + m) t n
  | 0, _, _, h => by simp [flatN] at h
  | m + 1, t, n, h => by
    intro w vs us hv hu hi
    simp only [flatN] at h
    split at h
    · rename_i q hq
      split at h
      · simp only [Option.some.injEq] at h; subst h
        match vs, us, hv, hu with
        | [v], [u], _, _ =>
          obtain ⟨k, a, b, rfl, rfl⟩ := hi 0 v u rfl rfl
          refine ⟨a == b, by simp, fun _ => ⟨_, _, rfl, rfl, ?_⟩, fun hno => absurd ⟨q, hq⟩ hno⟩
          rw [show d + (m + 1) = (d + m) + 1 from rfl]
          simp [Op.equalIn, run_underlying hq]
      · cases h
    · rename_i k e he
      split at h
      · rename_i c hc
        split at h
        · rename_i hz
          simp only [Option.some.injEq] at h; subst h
          simp only [Bool.and_eq_true] at hz
          have ih := run_equalIn_flat d m e c hc
          obtain ⟨r, h1, h2⟩ := run_eqItems_flat hc hz.1 ih hi (by omega) w k 0 (by rw [Nat.zero_add]; omega)
          refine ⟨r, ?_, fun ⟨q, hq⟩ => by rw [he] at hq; simp at hq, fun _ => ?_⟩
          · rw [h2, list_eq_iff hv hu]; simp
          · have hinfo : ∃ i, P.info? e = some i ∧ i.size = c := by
              have := hz.1
              unfold szIs at this
              cases hie : P.info? e with
              | none => simp [hie] at this
              | some i => simp only [hie, Nat.beq_eq] at this; exact ⟨i, rfl, this⟩
            obtain ⟨i, hie, hic⟩ := hinfo
            have hco : P.cellsOf e = c := by simp [Program.cellsOf, hie, hic]
            rw [show d + (m + 1) = (d + m) + 1 from rfl, run_equalIn_array w (d + m) vs.toArray us.toArray he hie, hco, List.range_eq_range']
            exact h1
        · cases h
      · cases h
    · rename_i fs hfs
      split at h
      · cases h
      · rename_i hst
        split at h
        · rename_i c hc
          split at h
          · simp only [Option.some.injEq] at h; subst h
            have hst' : P.stoodInHeld t = false := by simpa using hst
            obtain ⟨_, r, h1, h2⟩ := run_eqFields_flat (dd := d + m) (fun t n hn => ⟨m, hn⟩) (fun t n hn _ => run_equalIn_flat d m t n hn) hi (by omega) w fs.toList 0 c hc (by omega)
            refine ⟨r, ?_, fun ⟨q, hq⟩ => by rw [hfs] at hq; simp at hq, fun _ => ?_⟩
            · rw [h2, list_eq_iff hv hu]; simp
            · have hfo : P.fieldsOf t = fs := by simp [Program.fieldsOf, hfs]
              rw [show d + (m + 1) = (d + m) + 1 from rfl, run_equalIn_struct w (d + m) t vs.toArray us.toArray (by rw [hfo]; exact hfs) hst', hfo]
              exact h1
          · cases h
        · cases h
    · cases h

end Go.Va
/-! The operations that touch no memory, one by one, and all of them. -/
namespace Go.Va

variable {P : Program} {g : G}

/-- what is fixed in memory lies there -/
def Fixed (g : G) (w : World) : Prop := ∀ b o c, g.imm b o = some c → ∃ v, w.cell? ⟨b, o, none⟩ = some v ∧ R g c v ∧ c.scalar = true

theorem WOk.fixed {m : Mem} {w : World} (h : WOk g m w) : Fixed g w := fun b o c hc => by
  obtain ⟨v, h1, h2, h3, _⟩ := h.immc b o c hc
  exact ⟨v, h1, h2, h3⟩

theorem addr_add (b o n : Nat) : (⟨b, o, none⟩ : Addr).add n = ⟨b, o + n, none⟩ := by
  unfold Addr.add
  split <;> simp_all

/-! ## Slices -/

theorem run_sliceBound {k : IntKind} {n y : Nat} {code : BoundsCode} (h : n ≤ y) (w : World) : (Instr.sliceBound (.int k n) y code).run P w = .ok n w := by
  simp only [Instr.sliceBound, asIntOf, Sem.run_bind, Sem.run_pure, Result.andThen_ok]
  rw [if_pos ⟨by omega, by omega⟩]
  simp

/-- an optional bound -/
def OptNat (x : Option Value) (d n : Nat) : Prop := (x = none ∧ n = d) ∨ ∃ k, x = some (.int k n)

theorem run_sliceBounds {isS : Bool} {len cap l h m : Nat} {lo hi mx : Option Value} (hlo : OptNat lo 0 l) (hhi : OptNat hi len h) (hmx : OptNat mx cap m)
    (hm : mx.isSome = true → hi.isSome = true) (h1 : l ≤ h) (h2 : hi.isSome = true → h ≤ m) (h3 : mx.isSome = true → m ≤ cap) (w : World) :
    (Instr.sliceBounds isS len cap lo hi mx).run P w = .ok (l, h, m) w := by
  rcases hmx with ⟨rfl, rfl⟩ | ⟨km, rfl⟩
  · rcases hhi with ⟨rfl, rfl⟩ | ⟨kh, rfl⟩
    · rcases hlo with ⟨rfl, rfl⟩ | ⟨kl, rfl⟩
      · simp [Instr.sliceBounds]
      · simp [Instr.sliceBounds, run_sliceBound h1]
    · have h2' := h2 rfl
      rcases hlo with ⟨rfl, rfl⟩ | ⟨kl, rfl⟩
      · simp [Instr.sliceBounds, run_sliceBound h2']
      · simp [Instr.sliceBounds, run_sliceBound h2', run_sliceBound h1]
  · rcases hhi with ⟨rfl, rfl⟩ | ⟨kh, rfl⟩
    · simp at hm
    · have h2' := h2 rfl
      have h3' := h3 rfl
      rcases hlo with ⟨rfl, rfl⟩ | ⟨kl, rfl⟩
      · simp [Instr.sliceBounds, run_sliceBound h2', run_sliceBound h3']
      · simp [Instr.sliceBounds, run_sliceBound h2', run_sliceBound h1, run_sliceBound h3']

theorem optNat_R {a : Act} {t : T} {x : Option Operand} {y : Option Opd} (h : agOpt x y = true) (ht : TOn g t a.tmps (useO y)) {d n : Nat} (hn : natOr d (ev? t y) = some n) :
    OptNat (x.map a.eval) d n ∧ (x.map a.eval).isSome = (ev? t y).isSome := by
  cases x <;> cases y <;> simp only [agOpt, Bool.false_eq_true] at h
  · simp only [ev?, natOr, Option.some.injEq] at hn
    exact ⟨.inl ⟨rfl, hn.symm⟩, rfl⟩
  · rename_i x y
    simp only [ev?, natOr] at hn
    obtain ⟨k, hk⟩ := R_nat hn (agOpd_R h (ht.sub (by simp [useO])))
    exact ⟨.inr ⟨k, by simp [hk]⟩, rfl⟩

theorem R_slice_nil {a : Option Addr} {c : Nat} : R g (.slT false []) (.slice a 0 c) := by
  simp only [R]
  exact ⟨a, c, rfl, by simp, by simp, fun h => absurd rfl h⟩

theorem drop_take_len {α : Type} (xs : List α) (l h : Nat) (h1 : l ≤ h) (h2 : h ≤ xs.length) : ((xs.take h).drop l).length = h - l := by
  simp; omega

theorem ImmElems.sub {b o n : Nat} {xs : List AV} (h : ImmElems g b o n xs) (l k : Nat) : ImmElems g b (o + l * n) n ((xs.take k).drop l) := by
  intro i x hx
  rw [List.getElem?_drop, List.getElem?_take] at hx
  split at hx
  · have h1 := h (l + i) x hx
    refine ⟨h1.1, ?_⟩
    have e : o + l * n + i * n = o + (l + i) * n := by rw [Nat.add_mul]; omega
    rw [e]; exact h1.2
  · cases hx

theorem run_slice_ok {t e : TypeId} {sh : Sh} (he : sliceElem P t = some e) (hsh : shOk P e sh = true) {x r : AV} {v : Value} (hx : R g x v)
    {lo hi mx : Option AV} {lo' hi' mx' : Option Value}
    (hlo : ∀ n, natOr 0 lo = some n → OptNat lo' 0 n) (hhi : ∀ d n, natOr d hi = some n → OptNat hi' d n) (hmx : ∀ d n, natOr d mx = some n → OptNat mx' d n)
    (shi : hi'.isSome = hi.isSome) (smx : mx'.isSome = mx.isSome)
    (hr : sliceV sh x lo hi mx = some r) (w : World) : ∃ cv, (Instr.sliceAt t v lo' hi' mx').run P w = .ok cv w ∧ R g r cv := by
  have hu := sliceElem_spec he
  obtain ⟨hz, h0, _⟩ := shOk_spec hsh
  cases x <;> simp only [sliceV, reduceCtorEq] at hr
  case slT lim xs =>
    simp only [R] at hx
    obtain ⟨a, c, rfl, hc, hlim, hel⟩ := hx
    split at hr
    · rename_i l h hl hh
      split at hr
      · rename_i hcond
        simp only [Bool.and_eq_true, Nat.ble_eq] at hcond
        obtain ⟨⟨h1, h2⟩, hw⟩ := hcond
        -- the bound m
        have key : ∀ m lim', OptNat mx' c m → (mx'.isSome = true → hi'.isSome = true) → (hi'.isSome = true → h ≤ m) → m ≤ c → h ≤ m → (lim' = true → m = h) →
            ∃ cv, (Instr.sliceAt t (.slice a xs.length c) lo' hi' mx').run P w = .ok cv w ∧ R g (.slT lim' ((xs.take h).drop l)) cv := by
          intro m lim' hm hms hhm hmc hhm' hlm
          refine ⟨.slice (if m = l then a else a.map (·.add (l * sh.size))) (h - l) (m - l), ?_, ?_⟩
          · simp only [Instr.sliceAt, Instr.slice, Sem.run_bind, run_underlying hu, Result.andThen_ok, run_sliceBounds (hlo l hl) (hhi _ _ hh) hm hms h1 hhm (fun _ => hmc) w, szIs_run hz w, Sem.run_pure]
          · simp only [R]
            refine ⟨_, m - l, by rw [drop_take_len xs l h h1 h2], by rw [drop_take_len xs l h h1 h2]; omega, fun hl' => by rw [drop_take_len xs l h h1 h2, hlm hl'], fun hne => ?_⟩
            have hlt : l < h := by
              rcases Nat.lt_or_ge l h with hlt | hge
              · exact hlt
              · exfalso; apply hne; apply List.eq_nil_of_length_eq_zero; rw [drop_take_len xs l h h1 h2]; omega
            have hxne : xs ≠ [] := by rintro rfl; simp at h2; omega
            obtain ⟨b, o, n, rfl, hel'⟩ := hel hxne
            have hn : n = sh.size := by
              cases xs with
              | nil => exact absurd rfl hxne
              | cons x0 xr =>
                simp only [headW, Nat.beq_eq] at hw
                rw [← hw]; exact (hel' 0 x0 rfl).1.symm
            subst hn
            exact ⟨b, o + l * sh.size, sh.size, by rw [if_neg (by omega)]; simp [addr_add], hel'.sub l h⟩
        cases hmx' : mx with
        | none =>
          simp only [hmx', Option.some.injEq] at hr; subst hr
          have hmn : mx' = none := by cases mx' <;> simp_all
          subst hmn
          refine key c _ (.inl ⟨rfl, rfl⟩) (by simp) (fun _ => by omega) (Nat.le_refl _) (by omega) ?_
          simp only [Bool.and_eq_true, Nat.beq_eq, and_imp]
          intro hl1 hl2
          rw [hlim hl1, hl2]
        | some mv =>
          simp only [hmx'] at hr
          split at hr
          · rename_i m hm
            split at hr
            · rename_i hc2
              simp only [Bool.and_eq_true, Nat.ble_eq] at hc2
              simp only [Option.some.injEq] at hr; subst hr
              refine key m _ (hmx c m (by simp [hmx', natOr, hm])) (fun _ => by rw [shi]; exact hc2.2) (fun _ => hc2.1.1) (by omega) hc2.1.1 ?_
              simp only [Nat.beq_eq, imp_self]
            · cases hr
          · cases hr
      · cases hr
    · cases hr
  case slR k ver off len n ag =>
    split at hr
    · rename_i l h m hl hh hm
      split at hr
      · rename_i hcond
        simp only [Bool.and_eq_true, Nat.ble_eq, Nat.beq_eq] at hcond
        obtain ⟨⟨⟨⟨h1, h2⟩, h3⟩, hn⟩, hms⟩ := hcond
        subst hn
        have hms' : mx'.isSome = true → hi'.isSome = true := by
          intro hs
          rw [smx] at hs
          rw [shi]
          cases mx <;> simp_all
        simp only [R] at hx
        rcases hx with ⟨hi0, rfl, rfl, rfl⟩ | ⟨b, size, c, hi0, rfl, hlc, hsz⟩
        · -- nowhere
          have hl0 : l = 0 := by omega
          have hh0 : h = 0 := by omega
          have hm0 : m = 0 := by omega
          subst hl0 hh0 hm0
          have hrr : r = .slR k ver 0 0 sh.size ag := by simpa [Nat.blt_eq] using hr.symm
          subst hrr
          refine ⟨.slice none 0 0, ?_, by simp [R, hi0]⟩
          have hmx0 : OptNat mx' 0 0 := hmx 0 0 (by
            cases mx with
            | none => rfl
            | some mv => simpa [natOr] using hm)
          simp only [Instr.sliceAt, Instr.slice, Sem.run_bind, run_underlying hu, Result.andThen_ok, run_sliceBounds (hlo 0 hl) (hhi _ _ hh) hmx0 hms' (Nat.le_refl _) (fun _ => Nat.le_refl _) (fun _ => Nat.le_refl _) w, szIs_run hz w, Sem.run_pure]
          simp
        · -- the bound of the model
          obtain ⟨m', hm', hhm, hmc, hm0⟩ : ∃ m', OptNat mx' c m' ∧ h ≤ m' ∧ m' ≤ c ∧ (mx'.isSome = true → m' ≤ c) := by
            cases mx with
            | none =>
              have hmn : mx' = none := by cases mx' <;> simp_all
              exact ⟨c, .inl ⟨hmn, rfl⟩, by omega, Nat.le_refl _, fun _ => Nat.le_refl _⟩
            | some mv =>
              refine ⟨m, hmx c m (by simpa [natOr] using hm), h2, by omega, fun _ => by omega⟩
          have hrun : (Instr.sliceAt t (.slice (some ⟨b, off, none⟩) len c) lo' hi' mx').run P w =
              .ok (.slice (if m' = l then some ⟨b, off, none⟩ else some ⟨b, off + l * sh.size, none⟩) (h - l) (m' - l)) w := by
            simp only [Instr.sliceAt, Instr.slice, Sem.run_bind, run_underlying hu, Result.andThen_ok, run_sliceBounds (hlo l hl) (hhi _ _ hh) hm' hms' h1 (fun _ => hhm) hm0 w, szIs_run hz w, Sem.run_pure, Option.map_some, addr_add]
          refine ⟨_, hrun, ?_⟩
          split at hr
          · rename_i hb
            simp only [Bool.and_eq_true, Nat.beq_eq, Nat.blt_eq] at hb
            simp only [Option.some.injEq] at hr; subst hr
            rw [show h - l = 0 by omega]
            exact R_slice_nil
          · rename_i hb
            simp only [Bool.and_eq_true, Nat.beq_eq, Nat.blt_eq, not_and] at hb
            simp only [Option.some.injEq] at hr; subst hr
            simp only [R]
            refine .inr ⟨b, size, m' - l, hi0, ?_, by omega, ?_⟩
            · by_cases hml : m' = l
              · have : l = 0 := by
                  rcases Nat.eq_zero_or_pos l with h | h
                  · exact h
                  · exact absurd h (hb (by omega))
                subst this
                simp [hml]
              · rw [if_neg hml]
            · have e1 : (l + (m' - l)) * sh.size = l * sh.size + (m' - l) * sh.size := Nat.add_mul _ _ _
              have e2 : (l + (m' - l)) * sh.size ≤ c * sh.size := Nat.mul_le_mul_right _ (by omega)
              omega
      · cases hr
    · cases hr

/-! ## Addresses -/

theorem run_idxS_ok {t e : TypeId} {sh : Sh} (he : sliceElem P t = some e) (hsh : shOk P e sh = true) {x i r : AV} {v u : Value} (hx : R g x v) (hi : R g i u)
    (hr : idxSV sh x i = some r) (w : World) : ∃ cv, (Instr.indexAt t v u).run P w = .ok cv w ∧ R g r cv := by
  have hu := sliceElem_spec he
  obtain ⟨hz, h0, _⟩ := shOk_spec hsh
  unfold idxSV at hr
  split at hr
  · rename_i lim xs i' hi'
    obtain ⟨k, rfl⟩ := R_nat hi' hi
    split at hr
    · rename_i y hy
      split at hr
      · rename_i hw
        rw [Nat.beq_eq] at hw
        simp only [Option.some.injEq] at hr; subst hr
        simp only [R] at hx
        obtain ⟨a, c, rfl, hc, _, hel⟩ := hx
        have hlt : i' < xs.length := (List.getElem?_eq_some_iff.1 hy).1
        obtain ⟨b, o, n, rfl, hel'⟩ := hel (by rintro rfl; simp at hlt)
        have hn : n = sh.size := by rw [← hw]; exact (hel' i' y hy).1.symm
        subst hn
        refine ⟨.pointer (some ⟨b, o + i' * sh.size, none⟩), ?_, ?_⟩
        · simp only [Instr.indexAt, asIntOf, Sem.run_bind, Sem.run_pure, Result.andThen_ok, run_underlying hu]
          rw [Sem.run_ite, if_pos ⟨by omega, by omega⟩]
          simp [szIs_run hz w, addr_add]
        · simp only [R]
          exact ⟨b, _, rfl, (hel' i' y hy).2⟩
      · cases hr
    · cases hr
  · rename_i k ver off len n ag i' hi'
    obtain ⟨ki, rfl⟩ := R_nat hi' hi
    split at hr
    · rename_i hc
      simp only [Bool.and_eq_true, Nat.blt_eq, Nat.beq_eq] at hc
      obtain ⟨hlt, hn⟩ := hc
      subst hn
      simp only [Option.some.injEq] at hr; subst hr
      simp only [R] at hx
      rcases hx with ⟨_, _, rfl, _⟩ | ⟨b, size, c, hi0, rfl, hlc, hsz⟩
      · omega
      · refine ⟨.pointer (some ⟨b, off + i' * sh.size, none⟩), ?_, ?_⟩
        · simp only [Instr.indexAt, asIntOf, Sem.run_bind, Sem.run_pure, Result.andThen_ok, run_underlying hu]
          rw [Sem.run_ite, if_pos ⟨by omega, by omega⟩]
          simp [szIs_run hz w, addr_add]
        · simp only [R]
          exact ⟨b, size, hi0, rfl⟩
    · cases hr
  · cases hr

theorem part_tptr {sh : Sh} {cs : List AV} {off : Nat} {y : AV} (hy : partOf sh cs off = some y) {b o : Nat} (hi : ImmRow g b o cs) (hs : ∀ c, c ∈ cs → c.scalar = true) :
    ImmRow g b (o + off) y.cells := by
  cases sh with
  | one =>
    simp only [partOf] at hy
    have hsc := hs y (List.mem_of_getElem? hy)
    have hc : y.cells = [y] := by cases y <;> first | rfl | simp [AV.scalar] at hsc
    intro j c hj
    rw [hc] at hj
    cases j with
    | zero => simp at hj; subst hj; simpa using hi off y hy
    | succ j => simp at hj
  | many n =>
    simp only [partOf] at hy
    split at hy
    · simp only [Option.some.injEq] at hy; subst hy
      intro j c hj
      simp only [AV.cells, List.getElem?_take, List.getElem?_drop] at hj
      split at hj
      · have := hi (off + j) c hj
        rwa [← Nat.add_assoc] at this
      · cases hj
    · cases hy

theorem ImmRow.scalars {w : World} (hf : Fixed g w) {b o : Nat} {cs : List AV} (h : ImmRow g b o cs) : ∀ c, c ∈ cs → c.scalar = true := by
  intro c hc
  obtain ⟨j, hj⟩ := List.mem_iff_getElem?.1 hc
  obtain ⟨_, _, _, hs⟩ := hf _ _ _ (h j c hj)
  exact hs

theorem run_idxA_ok {t e : TypeId} {n : Nat} {sh : Sh} (hu : P.underlying t = some (.array n e)) (hsh : shOk P e sh = true) {x i r : AV} {v u : Value} {w : World} (hf : Fixed g w)
    (hx : R g x v) (hi : R g i u) (hr : idxAV n sh x i = some r) : ∃ cv, (Instr.indexAt t v u).run P w = .ok cv w ∧ R g r cv := by
  obtain ⟨hz, h0, _⟩ := shOk_spec hsh
  have run : ∀ (k : IntKind) (b o i' : Nat), i' < n → (Instr.indexAt t (.pointer (some ⟨b, o, none⟩)) (.int k i')).run P w = .ok (.pointer (some ⟨b, o + i' * sh.size, none⟩)) w := by
    intro k b o i' hlt
    simp only [Instr.indexAt, asIntOf, Sem.run_bind, Sem.run_pure, Result.andThen_ok, run_underlying hu, Instr.sureAddr]
    rw [Sem.run_ite, if_pos ⟨by omega, by omega⟩]
    simp [szIs_run hz w, addr_add]
  unfold idxAV at hr
  split at hr
  · rename_i k ver off i' hi'
    obtain ⟨ki, rfl⟩ := R_nat hi' hi
    split at hr
    · rename_i hc
      rw [Nat.blt_eq] at hc
      simp only [Option.some.injEq] at hr; subst hr
      simp only [R] at hx
      obtain ⟨b, size, hi0, rfl⟩ := hx
      exact ⟨_, run ki b off i' hc, by simp only [R]; exact ⟨b, size, hi0, rfl⟩⟩
    · cases hr
  · rename_i cs i' hi'
    obtain ⟨ki, rfl⟩ := R_nat hi' hi
    split at hr
    · rename_i hc
      rw [Nat.blt_eq] at hc
      split at hr
      · rename_i y hy
        simp only [Option.some.injEq] at hr; subst hr
        simp only [R] at hx
        obtain ⟨b, o, rfl, him⟩ := hx
        refine ⟨_, run ki b o i' hc, ?_⟩
        simp only [R]
        exact ⟨b, _, rfl, part_tptr hy him (him.scalars hf)⟩
      · cases hr
    · cases hr
  · cases hr

theorem run_fldA_ok {t : TypeId} {f : Nat} {fs : Array Field} {fd : Field} {sh : Sh} (hu : P.underlying t = some (.struct fs)) (hfd : fs[f]? = some fd) (hsh : shOk P fd.type sh = true)
    {v : Value} {b o : Nat} (hv : v = .pointer (some ⟨b, o, none⟩)) (w : World) : (Instr.fieldAt t v f).run P w = .ok (.pointer (some ⟨b, o + fd.offset, none⟩)) w := by
  obtain ⟨hz, h0, _⟩ := shOk_spec hsh
  subst hv
  simp only [Instr.fieldAt, Sem.run_bind, run_underlying hu, Result.andThen_ok, hfd, Instr.sureAddr, Sem.run_pure, fieldPlace, szIs_run hz w]
  rw [Sem.run_ite, if_neg (by omega)]
  simp [addr_add]

/-- reading a fixed row -/
theorem run_loadFixed {t : TypeId} {sh : Sh} (hsh : shOk P t sh = true) {x r : AV} {b o : Nat} {w : World} (hf : Fixed g w) (hi : ImmRow g b o x.cells) (hr : loadTV sh (.tptr x) = some r) :
    ∃ cv, (loadVar t ⟨b, o, none⟩).run P w = .ok cv w ∧ R g r cv := by
  obtain ⟨hz, h0, ha⟩ := shOk_spec hsh
  cases sh with
  | one =>
    cases hc : x.cells with
    | nil => simp [loadTV, hc] at hr
    | cons c tl =>
      cases tl with
      | cons c' tl => simp [loadTV, hc] at hr
      | nil =>
        simp only [loadTV, hc, Option.some.injEq] at hr; subst hr
        obtain ⟨v, hv, hrv, _⟩ := hf b o c (by simpa using hi 0 c (by rw [hc]; rfl))
        refine ⟨v, ?_, hrv⟩
        simp [loadVar, ha w, Sh.ag, hv]
  | many n =>
    simp only [loadTV] at hr
    split at hr
    · rename_i hl
      rw [Nat.beq_eq] at hl
      simp only [Option.some.injEq] at hr; subst hr
      have hex : ∃ vs : List Value, vs.length = x.cells.length ∧ ∀ (j : Nat) c, x.cells[j]? = some c → ∃ v, vs[j]? = some v ∧ w.cell? ⟨b, o + j, none⟩ = some v ∧ R g c v := by
        have : ∀ (cs : List AV) (o : Nat), ImmRow g b o cs → ∃ vs : List Value, vs.length = cs.length ∧ ∀ (j : Nat) c, cs[j]? = some c → ∃ v, vs[j]? = some v ∧ w.cell? ⟨b, o + j, none⟩ = some v ∧ R g c v := by
          intro cs
          induction cs with
          | nil => intro o _; exact ⟨[], rfl, by simp⟩
          | cons c cs ih =>
            intro o hi
            obtain ⟨v, hv, hrv, _⟩ := hf b o c (by simpa using hi 0 c rfl)
            obtain ⟨vs, hl, hvs⟩ := ih (o + 1) (fun j c' hj => by have := hi (j + 1) c' (by simpa using hj); rwa [show o + (j + 1) = o + 1 + j by omega] at this)
            refine ⟨v :: vs, by simp [hl], fun j c' hj => ?_⟩
            cases j with
            | zero => simp at hj; subst hj; exact ⟨v, rfl, by simpa using hv, hrv⟩
            | succ j =>
              obtain ⟨u, h1, h2, h3⟩ := hvs j c' (by simpa using hj)
              exact ⟨u, by simpa using h1, by rwa [show o + (j + 1) = o + 1 + j by omega], h3⟩
        exact this x.cells o hi
      obtain ⟨vs, hvl, hvs⟩ := hex
      refine ⟨.agg vs.toArray, ?_, ?_⟩
      · have hlc := run_loadCells_list (P := P) w ⟨b, o, none⟩ vs (fun j v hj => by
          have hjl : j < x.cells.length := by rw [← hvl]; exact (List.getElem?_eq_some_iff.1 hj).1
          obtain ⟨u, h1, h2, _⟩ := hvs j _ (List.getElem?_eq_getElem hjl)
          rw [addr_add, h2, ← h1, hj])
        simp only [loadVar, Sem.run_bind, ha w, Result.andThen_ok, Sh.ag, if_true, szIs_run hz w, Sh.size, Sem.run_pure]
        have e : n = vs.length := by omega
        rw [e, hlc]
        rfl
      · simp only [R]
        refine ⟨vs, rfl, RL_mk hvl.symm fun j c v hc hv => ?_⟩
        obtain ⟨u, h1, _, h3⟩ := hvs j c hc
        rw [hv] at h1
        simp only [Option.some.injEq] at h1; subst h1; exact h3
    · cases hr

/-! ## max, min -/

theorem intsOf_run {f : Value → Value → Sem Value} {F : Int → Int → Int} (hff : ∀ k x y (w : World), (f (.int k x) (.int k y)).run P w = .ok (.int k (F x y)) w) :
    ∀ {l : List AV} {k : IntKind} {ns : List Int} {vs : List Value}, intsOf l = some (k, ns) → RL g l vs → (∀ (x : Int) (w : World), (vs.foldlM f (.int k x)).run P w = .ok (.int k (ns.foldl F x)) w) ∧
      ∃ x r, ns = x :: r ∧ ∃ u, vs = .int k x :: u ∧ ∀ (w : World), (u.foldlM f (.int k x)).run P w = .ok (.int k (r.foldl F x)) w := by
  intro l
  induction l with
  | nil => intro k ns vs h; simp [intsOf] at h
  | cons a l ih =>
    intro k ns vs h hr
    simp only [RL] at hr
    obtain ⟨v, r, rfl, hv, hr⟩ := hr
    cases l with
    | nil =>
      cases a <;> simp only [intsOf, Option.some.injEq, Prod.mk.injEq, reduceCtorEq] at h
      obtain ⟨rfl, rfl⟩ := h
      simp only [R] at hv; subst hv
      simp only [RL] at hr; subst hr
      exact ⟨fun x w => by simp [hff], _, [], rfl, [], rfl, fun w => by simp⟩
    | cons b l' =>
      cases a <;> simp only [intsOf, reduceCtorEq] at h
      rename_i k0 n
      split at h
      · rename_i k' l'' hl
        split at h
        · rename_i hk
          subst hk
          simp only [Option.some.injEq, Prod.mk.injEq] at h
          obtain ⟨rfl, rfl⟩ := h
          simp only [R] at hv; subst hv
          obtain ⟨h1, _⟩ := ih hl hr
          exact ⟨fun x w => by simp [hff, h1], n, l'', rfl, r, rfl, fun w => h1 n w⟩
        · cases h
      · cases h

theorem run_max_ok {l : List AV} {vs : List Value} {r : AV} (hl : RL g l vs) (hr : maxV l = some r) (ts : Array TypeId) (ty : TypeId) (w : World) :
    ∃ cv, (Builtin.max_ ts ty vs.toArray).run P w = .ok cv w ∧ R g r cv := by
  simp only [maxV] at hr
  split at hr
  · rename_i k x rest hi
    simp only [Option.some.injEq] at hr; subst hr
    obtain ⟨_, x', r', hxr, u, rfl, hu⟩ := intsOf_run (P := P) (f := Builtin.max2) (F := fun x y => if y > x then y else x) (fun k x y w => by simp [Builtin.max2]) hi hl
    simp only [List.cons.injEq] at hxr
    obtain ⟨rfl, rfl⟩ := hxr
    exact ⟨_, by simpa [Builtin.max_] using hu w, R_int⟩
  · cases hr

theorem run_min_ok {l : List AV} {vs : List Value} {r : AV} (hl : RL g l vs) (hr : minV l = some r) (ts : Array TypeId) (ty : TypeId) (w : World) :
    ∃ cv, (Builtin.min_ ts ty vs.toArray).run P w = .ok cv w ∧ R g r cv := by
  simp only [minV] at hr
  split at hr
  · rename_i k x rest hi
    simp only [Option.some.injEq] at hr; subst hr
    obtain ⟨_, x', r', hxr, u, rfl, hu⟩ := intsOf_run (P := P) (f := Builtin.min2) (F := fun x y => if y < x then y else x) (fun k x y w => by simp [Builtin.min2]) hi hl
    simp only [List.cons.injEq] at hxr
    obtain ⟨rfl, rfl⟩ := hxr
    exact ⟨_, by simpa [Builtin.min_] using hu w, R_int⟩
  · cases hr

end Go.Va
