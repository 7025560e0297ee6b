/-
  The numbers of the element types.
-/
import Derived.Test.YthignlpdeaglaaaAbC
namespace Go.Abs.T
def ty_3_uint16 : TypeId := 46
def ty_api_Code : TypeId := 25
def ty_api_Op : TypeId := 77
def ty_bool : TypeId := 4
def ty_func_int_int : TypeId := 81
def ty_int : TypeId := 3
def ty_isw_maker : TypeId := 80
def ty_p_isw_maker : TypeId := 78
def ty_sl_int : TypeId := 23
def ty_uint32 : TypeId := 28
end Go.Abs.T
