/-
  Runs along a path are runs, where what is kept holds.
-/
import Derived.Test.YtilbbbjfdcnciaaGreatJMg
import Derived.Test.YtilbbbjfdcnciaaGreatJMa
namespace Go.Va

theorem good_append : ∀ {a b : Cs}, Good (a ++ b) → Good a ∧ Good b
  | [], b, h => ⟨trivial, h⟩
  | (x, y) :: r, b, h => by
    simp only [List.cons_append, Good] at h ⊢
    obtain ⟨h1, h2⟩ := good_append h.2
    exact ⟨⟨h.1, h1⟩, h2⟩

theorem consult_ok {p p' : Pa} {v w : Bool} {cs : Cs} (h : consult p v = some (w, p', cs)) (hg : Good cs) : v = w := by
  unfold consult at h
  split at h
  · simp only [Option.some.injEq, Prod.mk.injEq] at h
    obtain ⟨rfl, _, rfl⟩ := h
    exact hg.1
  all_goals
    simp only [Option.some.injEq, Prod.mk.injEq] at h
    exact h.1

def CbOk (cb : CallB) (c : CallF) : Prop := ∀ md f args h p v h' p' cs, cb md f args h p = some (v, h', p', cs) → Good cs → c md f args h = some (v, h')

theorem callVB_ok {cb : CallB} {c : CallF} (hc : CbOk cb c) {t : T} {h h' : H} {f : Opd} {md : Md} {args : List Opd} {p p' : Pa} {v : AV} {cs : Cs} (eff : Bool) (hv : callVB cb t h f md args p = some (v, h', p', cs)) (hg : Good cs) : callV c t h (.call md eff f args) = some (v, h') := by
  unfold callVB at hv
  simp only [callV]
  split at hv
  · rename_i hf
    try rw [hf]
    exact hc _ _ _ _ _ _ _ _ _ hv hg
  · cases hv

theorem stepB_ok {cb : CallB} {c : CallF} (hc : CbOk cb c) {draw : Bool} {base j : Nat} {t : T} {h h' : H} {op : AOp} {p p' : Pa} {v : AV} {cs : Cs} (hv : stepB cb draw base j t h op p = some (v, h', p', cs)) (hg : Good cs) : stepV c draw base j t h op = some (v, h') := by
  have dflt : (match stepV (fun _ _ _ _ => none) draw base j t h op with | some (v, h) => some (v, h, p, ([] : Cs)) | none => none) = some (v, h', p', cs) → stepV c draw base j t h op = some (v, h') := by
    intro hq
    split at hq
    · rename_i v1 h1 hs
      simp only [Option.some.injEq, Prod.mk.injEq] at hq
      obtain ⟨rfl, rfl, _⟩ := hq
      exact stepV_mono (c := fun _ _ _ _ => none) (fun _ _ _ _ _ hh => by cases hh) hs
    · cases hq
  cases op
  case pick x a b =>
    simp only [stepB] at hv
    split at hv
    · rename_i b0 hb
      split at hv
      · rename_i p1 cs1 hcon
        simp only [Option.some.injEq, Prod.mk.injEq] at hv
        obtain ⟨rfl, rfl, _, rfl⟩ := hv
        have := consult_ok hcon hg
        subst this
        simp only [stepV, AOp.kd, inertV, hb]
      · rename_i p1 cs1 hcon
        simp only [Option.some.injEq, Prod.mk.injEq] at hv
        obtain ⟨rfl, rfl, _, rfl⟩ := hv
        have := consult_ok hcon hg
        subst this
        simp only [stepV, AOp.kd, inertV, hb]
      · cases hv
    · cases hv
  case call md eff f args =>
    cases eff <;> cases draw <;> simp only [stepB] at hv <;> simp only [stepV, AOp.kd, Bool.false_eq_true, if_false, if_true]
    · exact callVB_ok hc false hv hg
    · split at hv
      · rename_i v1 h1 p1 cs1 hcv
        split at hv
        · rename_i hcond
          simp only [Option.some.injEq, Prod.mk.injEq] at hv
          obtain ⟨rfl, rfl, _, rfl⟩ := hv
          rw [callVB_ok hc false hcv hg]
          simp only [hcond, if_true]
        · cases hv
      · cases hv
    · exact callVB_ok hc true hv hg
    · split at hv
      · rename_i v1 h1 p1 cs1 hcv
        split at hv
        · rename_i hcond
          simp only [Option.some.injEq, Prod.mk.injEq] at hv
          obtain ⟨rfl, rfl, _, rfl⟩ := hv
          rw [callVB_ok hc true hcv hg]
          simp only [hcond, if_true]
        · cases hv
      · cases hv
  all_goals exact dflt hv

theorem runB_ok {cb : CallB} {c : CallF} (hc : CbOk cb c) {draw : Bool} {base : Nat} : ∀ (ops : List AOpr) (j : Nat) (t : T) (h : H) (p : Pa) (t' : T) (h' : H) (p' : Pa) (cs : Cs), runB cb draw base j ops t h p = some (t', h', p', cs) → Good cs → runOps c draw base j ops t h = some (t', h')
  | [], _, t, h, p, t', h', p', cs, hv, _ => by
    simp only [runB, Option.some.injEq, Prod.mk.injEq] at hv
    obtain ⟨rfl, rfl, _⟩ := hv
    rfl
  | o :: ops, j, t, h, p, t', h', p', cs, hv, hg => by
    simp only [runB] at hv
    simp only [runOps]
    split at hv
    · rename_i hgd
      try rw [hgd]
      split at hv
      · rename_i v1 h1 p1 cs1 hs
        split at hv
        · rename_i t2 h2 p2 cs2 hr
          simp only [Option.some.injEq, Prod.mk.injEq] at hv
          obtain ⟨rfl, rfl, _, rfl⟩ := hv
          obtain ⟨g1, g2⟩ := good_append hg
          simp only [stepB_ok hc hs g1]
          exact runB_ok hc ops _ _ _ _ _ _ _ _ hr g2
        · cases hv
      · cases hv
    · rename_i g want hgd
      try rw [hgd]
      split at hv
      · rename_i b hb
        try simp only [hb]
        split at hv
        · rename_i p0 cs0 hcon
          split at hv
          · rename_i v1 h1 p1 cs1 hs
            split at hv
            · rename_i t2 h2 p2 cs2 hr
              simp only [Option.some.injEq, Prod.mk.injEq] at hv
              obtain ⟨rfl, rfl, _, rfl⟩ := hv
              obtain ⟨g0, g12⟩ := good_append hg
              obtain ⟨g1, g2⟩ := good_append g12
              rw [if_pos (consult_ok hcon g0)]
              simp only [stepB_ok hc hs g1]
              exact runB_ok hc ops _ _ _ _ _ _ _ _ hr g2
            · cases hv
          · cases hv
        · rename_i p0 cs0 hcon
          split at hv
          · rename_i t2 h2 p2 cs2 hr
            simp only [Option.some.injEq, Prod.mk.injEq] at hv
            obtain ⟨rfl, rfl, _, rfl⟩ := hv
            obtain ⟨g0, g2⟩ := good_append hg
            rw [if_neg (by rw [consult_ok hcon g0]; simp)]
            exact runB_ok hc ops _ _ _ _ _ _ _ _ hr g2
          · cases hv
        · cases hv
      · cases hv

def EbOk (eb : ExecB) (ex : ExecF) : Prop := ∀ ac t h p out t' h' p' cs, eb ac t h p = some (out, t', h', p', cs) → Good cs → ex ac t h = some (out, t', h')

theorem callInlB_ok {eb : ExecB} {ex : ExecF} (he : EbOk eb ex) {fn : AFunc} {args : List AV} {h h' : H} {p p' : Pa} {v : AV} {cs : Cs} (hv : callInlB eb fn args h p = some (v, h', p', cs)) (hg : Good cs) : callInl ex fn args h = some (v, h') := by
  unfold callInlB at hv
  split at hv
  · cases hv
  · rename_i out t1 h1 p1 cs1 hne hx
    split at hv
    · rename_i l hl
      simp only [Option.some.injEq, Prod.mk.injEq] at hv
      obtain ⟨rfl, rfl, _, rfl⟩ := hv
      have := he _ _ _ _ _ _ _ _ _ hx hg
      unfold callInl
      rw [this]
      cases out with
      | exit i => exact absurd rfl (hne i)
      | norm => simp only [hl]
      | ret => simp only [hl]
    · cases hv
  · cases hv

theorem callPureB_ok {eb : ExecB} {ex : ExecF} (he : EbOk eb ex) {fn : AFunc} {ds : List AV} {p p' : Pa} {v : AV} {cs : Cs} (hv : callPureB eb fn ds p = some (v, p', cs)) (hg : Good cs) : callPure ex fn ds = some v := by
  unfold callPureB at hv
  split at hv
  · cases hv
  · rename_i out t1 h1 p1 cs1 hne hx
    split at hv
    · rename_i l hl
      split at hv
      · rename_i d os hf
        simp only [Option.some.injEq, Prod.mk.injEq] at hv
        obtain ⟨rfl, _, rfl⟩ := hv
        have := he _ _ _ _ _ _ _ _ _ hx hg
        unfold callPure
        rw [this]
        cases out with
        | exit i => exact absurd rfl (hne i)
        | norm => simp only [hl, hf]
        | ret => simp only [hl, hf]
      · cases hv
    · cases hv
  · cases hv

theorem callBodyB_ok {eb : ExecB} {ex : ExecF} {F : Tab} (he : EbOk eb ex) : CbOk (callBodyB eb F) (callBody ex F) := by
  intro md f args h p v h' p' cs hv hg
  unfold callBodyB at hv
  unfold callBody
  split at hv
  · cases hv
  · rename_i q hq
    try rw [hq]
    split at hv
    · rename_i v1 h1 hp
      simp only [Option.some.injEq, Prod.mk.injEq] at hv
      obtain ⟨rfl, rfl, _⟩ := hv
      exact hp
    · cases hv
  · rename_i fn hf
    try rw [hf]
    have pur : ∀ {ds : List AV}, (match callPureB eb fn ds p with | some (v, p, cs) => some (v, h, p, cs) | none => none) = some (v, h', p', cs) → (match callPure ex fn ds with | some v => some (v, h) | none => none) = some (v, h') := by
      intro ds hq
      split at hq
      · rename_i v1 p1 cs1 hcp
        simp only [Option.some.injEq, Prod.mk.injEq] at hq
        obtain ⟨rfl, rfl, _, rfl⟩ := hq
        rw [callPureB_ok he hcp hg]
      · cases hq
    cases md <;> simp only at hv ⊢
    · split at hv
      · rename_i ds hd
        try rw [hd]
        exact pur hv
      · cases hv
    · exact callInlB_ok he hv hg
    · cases hv
    · split at hv
      · rename_i ds hd
        try rw [hd]
        exact pur hv
      · rename_i hd
        try rw [hd]
        exact callInlB_ok he hv hg

theorem execB_ok (F : Tab) : ∀ n, EbOk (execB F n) (exec F n)
  | 0 => fun ac t h p out t' h' p' cs hv _ => by simp [execB] at hv
  | n + 1 => fun ac t h p out t' h' p' cs hv hg => by
    have ih := execB_ok F n
    cases ac
    case skip =>
      simp only [execB, Option.some.injEq, Prod.mk.injEq] at hv
      obtain ⟨rfl, rfl, rfl, _⟩ := hv
      rfl
    case exit i =>
      simp only [execB, Option.some.injEq, Prod.mk.injEq] at hv
      obtain ⟨rfl, rfl, rfl, _⟩ := hv
      rfl
    case ret =>
      simp only [execB, Option.some.injEq, Prod.mk.injEq] at hv
      obtain ⟨rfl, rfl, rfl, _⟩ := hv
      rfl
    case region fz ex ops draw live =>
      simp only [execB] at hv
      simp only [exec]
      split at hv
      · rename_i t1 h1 hf
        try rw [hf]
        split at hv
        · rename_i hex
          simp only [hex, if_true]
          split at hv
          · rename_i t2 h2 p2 cs2 hr
            simp only [Option.some.injEq, Prod.mk.injEq] at hv
            obtain ⟨rfl, rfl, rfl, _, rfl⟩ := hv
            rw [runB_ok (callBodyB_ok ih) _ _ _ _ _ _ _ _ _ hr hg]
          · cases hv
        · cases hv
      · cases hv
    case seq a b =>
      simp only [execB] at hv
      simp only [exec]
      split at hv
      · rename_i t1 h1 p1 cs1 hx
        split at hv
        · rename_i out2 t2 h2 p2 cs2 hy
          simp only [Option.some.injEq, Prod.mk.injEq] at hv
          obtain ⟨rfl, rfl, rfl, _, rfl⟩ := hv
          obtain ⟨g1, g2⟩ := good_append hg
          rw [ih _ _ _ _ _ _ _ _ _ hx g1]
          exact ih _ _ _ _ _ _ _ _ _ hy g2
        · cases hv
      · rename_i hne
        have := ih _ _ _ _ _ _ _ _ _ hv hg
        rw [this]
        cases out with
        | norm => exact absurd hv (hne _ _ _ _)
        | exit i => rfl
        | ret => rfl
    case cond c a b live =>
      simp only [execB] at hv
      simp only [exec]
      split at hv
      · rename_i v hcv
        try simp only [hcv]
        split at hv
        · rename_i w p1 cs1 hcon
          have key : ∀ {o2 t2 h2 p2 cs2}, execB F n (match w with | true => a | false => b) t h p1 = some (o2, t2, h2, p2, cs2) → Good cs1 → Good cs2 → exec F n (if v = true then a else b) t h = some (o2, t2, h2) := by
            intro o2 t2 h2 p2 cs2 hx g1 g2
            rw [consult_ok hcon g1]
            have := ih _ _ _ _ _ _ _ _ _ hx g2
            cases w <;> simpa using this
          split at hv
          · rename_i t2 h2 p2 cs2 hx
            simp only [Option.some.injEq, Prod.mk.injEq] at hv
            obtain ⟨rfl, rfl, rfl, _, rfl⟩ := hv
            obtain ⟨g1, g2⟩ := good_append hg
            rw [key hx g1 g2]
          · rename_i o2 t2 h2 p2 cs2 hne hx
            simp only [Option.some.injEq, Prod.mk.injEq] at hv
            obtain ⟨rfl, rfl, rfl, _, rfl⟩ := hv
            obtain ⟨g1, g2⟩ := good_append hg
            rw [key hx g1 g2]
            cases o2 with
            | norm => exact absurd rfl hne
            | exit i => rfl
            | ret => rfl
          · cases hv
        · cases hv
      · cases hv
    case block id a live =>
      simp only [execB] at hv
      simp only [exec]
      split at hv
      · rename_i t1 h1 p1 cs1 hx
        simp only [Option.some.injEq, Prod.mk.injEq] at hv
        obtain ⟨rfl, rfl, rfl, _, rfl⟩ := hv
        rw [ih _ _ _ _ _ _ _ _ _ hx hg]
      · rename_i i t1 h1 p1 cs1 hx
        split at hv
        · rename_i hi
          simp only [Option.some.injEq, Prod.mk.injEq] at hv
          obtain ⟨rfl, rfl, rfl, _, rfl⟩ := hv
          rw [ih _ _ _ _ _ _ _ _ _ hx hg]
          simp only [hi, if_true]
        · rename_i hi
          simp only [Option.some.injEq, Prod.mk.injEq] at hv
          obtain ⟨rfl, rfl, rfl, _, rfl⟩ := hv
          rw [ih _ _ _ _ _ _ _ _ _ hx hg]
          simp only [hi, Bool.false_eq_true, if_false]
      · rename_i hn1 hn2
        rw [ih _ _ _ _ _ _ _ _ _ hv hg]
        cases out with
        | norm => exact absurd hv (hn1 _ _ _ _)
        | exit i => exact absurd hv (hn2 _ _ _ _ _)
        | ret => rfl
    case loop a live =>
      simp only [execB] at hv
      simp only [exec]
      split at hv
      · rename_i t1 h1 p1 cs1 hx
        split at hv
        · rename_i out2 t2 h2 p2 cs2 hy
          simp only [Option.some.injEq, Prod.mk.injEq] at hv
          obtain ⟨rfl, rfl, rfl, _, rfl⟩ := hv
          obtain ⟨g1, g2⟩ := good_append hg
          rw [ih _ _ _ _ _ _ _ _ _ hx g1]
          exact ih _ _ _ _ _ _ _ _ _ hy g2
        · cases hv
      · rename_i hne
        have := ih _ _ _ _ _ _ _ _ _ hv hg
        rw [this]
        cases out with
        | norm => exact absurd hv (hne _ _ _ _)
        | exit i => rfl
        | ret => rfl

end Go.Va
