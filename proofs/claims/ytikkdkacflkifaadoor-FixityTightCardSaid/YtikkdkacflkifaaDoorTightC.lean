/- DERIVED. The walk of tight, at an operator. -/
import Derived.Test.YtikkdkacflkifaaDoorTightC0
import Derived.Test.YtikkdkacflkifaaDoorTightC1
import Derived.Test.YtikkdkacflkifaaDoorTightC2
set_option linter.unusedSimpArgs false
set_option linter.unusedVariables false
namespace Go.Proofs.YtikkdkacflkifaaDoor
open Go.RowKit

theorem tight_inf (env : List Fx) (xa : Option Addr) (ec eb eo : Nat) (ops : List Tr) (oa : Option Addr) (oc ob oo : Nat) (OK : Nat → Value) (t l r : Tr) (a m c : Nat) (hk : t.kind = 20) (h3 : t.kids.length = 3) (hx : t.kids[0]? = some l) (hy : t.kids[2]? = some r) (ha : a < ops.length) (hm : m < ops.length)
    (hD1 : TDoes env xa ec eb eo ops oa oc ob oo OK l a m) (hD2 : TDoes env xa ec eb eo ops oa oc ob oo OK r m c) (hA : t.alike ops[a] = false) (f g h : Fx) (gi hi : Bool) (hf : underX env t = (f, true)) (hg : underX env l = (g, gi)) (hh : underX env r = (h, hi))
    (hmt : t.op.mid.text.size ≤ 1152921504606846976) (hml : l.kind = 20 → l.op.mid.text.size ≤ 1152921504606846976) (hmr : r.kind = 20 → r.op.mid.text.size ≤ 1152921504606846976)
    (hcl : gi = false ∨ (l.alike ops[a] = false ∧ gi = true ∧ (f.prec < g.prec ∨ (g.prec = f.prec ∧ g.side = 1 ∧ f.side = 1))))
    (hcr : hi = false ∨ (r.alike ops[m] = false ∧ hi = true ∧ ((r.kind = 21 ∧ f.prec < 6) ∨ (r.kind = 20 ∧ (f.prec < h.prec ∨ (h.prec = f.prec ∧ h.side = 2 ∧ f.side = 2)))))) :
    TDoes env xa ec eb eo ops oa oc ob oo OK t a c := by
  have hql : (gi = false) ∨ (l.alike ops[a] = false ∧ gi = true ∧ decide (g.prec < f.prec) = false ∧ (g.prec == f.prec) = false) ∨ (l.alike ops[a] = false ∧ gi = true ∧ decide (g.prec < f.prec) = false ∧ (g.prec == f.prec) = true ∧ (g.side != 1) = false ∧ (f.side != 1) = false) := by
    rcases hcl with h | ⟨h1, h2, h3 | ⟨h3, h4, h5⟩⟩
    · exact .inl h
    · exact .inr (.inl ⟨h1, h2, by simp; omega, by simp; omega⟩)
    · exact .inr (.inr ⟨h1, h2, by simp; omega, by simp; omega, by simp; omega, by simp; omega⟩)
  have hqr : (hi = false) ∨ (r.alike ops[m] = false ∧ hi = true ∧ (r.kind == 21) = true ∧ (r.kind == 20) = false ∧ decide (6 ≤ f.prec) = false) ∨ (r.alike ops[m] = false ∧ hi = true ∧ (r.kind == 21) = false ∧ (r.kind == 20) = true ∧ decide (h.prec < f.prec) = false ∧ (h.prec == f.prec) = false) ∨ (r.alike ops[m] = false ∧ hi = true ∧ (r.kind == 21) = false ∧ (r.kind == 20) = true ∧ decide (h.prec < f.prec) = false ∧ (h.prec == f.prec) = true ∧ (h.side != 2) = false ∧ (f.side != 2) = false) := by
    rcases hcr with h | ⟨h1, h2, ⟨h3, h4⟩ | ⟨h3, h4 | ⟨h4, h5, h6⟩⟩⟩
    · exact .inl h
    · exact .inr (.inl ⟨h1, h2, by simp; omega, by simp; omega, by simp; omega⟩)
    · exact .inr (.inr (.inl ⟨h1, h2, by simp; omega, by simp; omega, by simp; omega, by simp; omega⟩))
    · exact .inr (.inr (.inr ⟨h1, h2, by simp; omega, by simp; omega, by simp; omega, by simp; omega, by simp; omega, by simp; omega⟩))
  rcases hql with ql | ql | ql <;> rcases hqr with qr | qr | qr | qr
  · exact tight_inf00 env xa ec eb eo ops oa oc ob oo OK t l r a m c hk h3 hx hy ha hm hD1 hD2 hA f g h gi hi hf hg hh hmt hml hmr ql qr
  · exact tight_inf01 env xa ec eb eo ops oa oc ob oo OK t l r a m c hk h3 hx hy ha hm hD1 hD2 hA f g h gi hi hf hg hh hmt hml hmr ql qr
  · exact tight_inf02 env xa ec eb eo ops oa oc ob oo OK t l r a m c hk h3 hx hy ha hm hD1 hD2 hA f g h gi hi hf hg hh hmt hml hmr ql qr
  · exact tight_inf03 env xa ec eb eo ops oa oc ob oo OK t l r a m c hk h3 hx hy ha hm hD1 hD2 hA f g h gi hi hf hg hh hmt hml hmr ql qr
  · exact tight_inf10 env xa ec eb eo ops oa oc ob oo OK t l r a m c hk h3 hx hy ha hm hD1 hD2 hA f g h gi hi hf hg hh hmt hml hmr ql qr
  · exact tight_inf11 env xa ec eb eo ops oa oc ob oo OK t l r a m c hk h3 hx hy ha hm hD1 hD2 hA f g h gi hi hf hg hh hmt hml hmr ql qr
  · exact tight_inf12 env xa ec eb eo ops oa oc ob oo OK t l r a m c hk h3 hx hy ha hm hD1 hD2 hA f g h gi hi hf hg hh hmt hml hmr ql qr
  · exact tight_inf13 env xa ec eb eo ops oa oc ob oo OK t l r a m c hk h3 hx hy ha hm hD1 hD2 hA f g h gi hi hf hg hh hmt hml hmr ql qr
  · exact tight_inf20 env xa ec eb eo ops oa oc ob oo OK t l r a m c hk h3 hx hy ha hm hD1 hD2 hA f g h gi hi hf hg hh hmt hml hmr ql qr
  · exact tight_inf21 env xa ec eb eo ops oa oc ob oo OK t l r a m c hk h3 hx hy ha hm hD1 hD2 hA f g h gi hi hf hg hh hmt hml hmr ql qr
  · exact tight_inf22 env xa ec eb eo ops oa oc ob oo OK t l r a m c hk h3 hx hy ha hm hD1 hD2 hA f g h gi hi hf hg hh hmt hml hmr ql qr
  · exact tight_inf23 env xa ec eb eo ops oa oc ob oo OK t l r a m c hk h3 hx hy ha hm hD1 hD2 hA f g h gi hi hf hg hh hmt hml hmr ql qr
#print axioms tight_inf
end Go.Proofs.YtikkdkacflkifaaDoor
