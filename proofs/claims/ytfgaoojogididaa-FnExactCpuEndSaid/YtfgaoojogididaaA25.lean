/-
  The A-machine, part 25: what a step unfolds.
-/
import Derived.Test.YtfgaoojogididaaA24
namespace Go.Proofs.Ytfgaoojogididaa.AM
attribute [simp] evQ memA binA unA lenA_tr lenA_sl lenA_nilsl lenA_ints lenA_intss lenA_str opd avc avc1 putA_get putA_none envOf_0 envOf_1 envOf_2 envOf_3 envOf_4 envOf_5 envOf_6 loadA readCells faddrA iaddrA fieldA indexA storeA makeSliceA buildSliceA allocA boxA buildA fillA setCs hp_rows_put resA appendA_mt_ints hp_next_rows hp_next_tick hp_put_tick hp_mt_rows hp_mt_tick maskR newA isNew gdv int_beq int_bne ltS ltB ltK
end Go.Proofs.Ytfgaoojogididaa.AM
